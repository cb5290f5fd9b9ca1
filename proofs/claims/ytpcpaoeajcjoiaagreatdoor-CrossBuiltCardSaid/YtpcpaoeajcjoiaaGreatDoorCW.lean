/- Texts joined, what is not reached left out. -/
import Derived.Test.YtpcpaoeajcjoiaaGreatDoorPJ
import Derived.Test.YtpcpaoeajcjoiaaGreatDoorCT
import Derived.Test.YtpcpaoeajcjoiaaGreatDoorXP
import Derived.Test.YtpcpaoeajcjoiaaGreatDoorPG
import Derived.Test.YtpcpaoeajcjoiaaGreatDoorKA
import Derived.Test.YtpcpaoeajcjoiaaGreatDoorQL6Tab
import Derived.Lib.SmallJoins
import Derived.ProofKit
import Derived.OpenShut
import Derived.ShutString
import Derived.ChangeOld
set_option linter.unusedVariables false
set_option linter.unusedSimpArgs false
namespace Go.Proofs.YtpcpaoeajcjoiaaGreatDoor
open Go.RowKit Kit
def Cb.ints (l : List Int) : List Value:=l.map fun x=>.int .i64 x
theorem Cb.int_at {w : World} {v : Value} {l : List Int} (h : Rd w 1 v l.length (Cb.ints l)) {j : Nat} (hj : j < l.length) : ∃ g off c,v = .slice (some ⟨g,off,none⟩) l.length c ∧ g < w.heap.size ∧ w.cell? ⟨g,off + j,none⟩ = some (.int .i64 l[j]):=by
 obtain ⟨_,A,c,rfl,_,_,h4⟩:=h
 obtain ⟨g,off,rfl,hg,hc⟩:=h4 (by omega)
 exact ⟨g,off,c,rfl,hg,hc j _ (by simp [Cb.ints,List.getElem?_eq_getElem hj])⟩
def Cb.allV : Array Value:=#[.string ⟨Xc.tIf.toArray⟩,.string ⟨Xc.tElse.toArray⟩,.string ⟨Xc.tThen.toArray⟩,.string ⟨Xc.tBegin.toArray⟩,.string ⟨Xc.tWhile.toArray⟩,.string ⟨Xc.tRepeat.toArray⟩,.string ⟨Xc.tUntil.toArray⟩,.string ⟨Xc.tAgain.toArray⟩,.string ⟨Xc.tExit.toArray⟩,.string ⟨Xc.tRec.toArray⟩,
 .string ⟨(Xc.tTick ++ 32 :: Cb.tOne).toArray⟩,.string ⟨(Xc.tChar ++ 32 :: Cb.tX).toArray⟩,.string ⟨Cb.tAmp.toArray⟩,.string ⟨Cb.tOne.toArray⟩,.string ⟨Cb.tM5.toArray⟩,.string ⟨Cb.tHun.toArray⟩,.string ⟨Cb.tV.toArray⟩,.string ⟨Cb.tSeven.toArray⟩]
theorem Cb.all_at : ∀ (m : Nat),m < 18 → Cb.allV[m]? = some (.string ⟨(Cb.wd m).toArray⟩)
 | 0,_=>rfl
 | 1,_=>rfl
 | 2,_=>rfl
 | 3,_=>rfl
 | 4,_=>rfl
 | 5,_=>rfl
 | 6,_=>rfl
 | 7,_=>rfl
 | 8,_=>rfl
 | 9,_=>rfl
 | 10,_=>rfl
 | 11,_=>rfl
 | 12,_=>rfl
 | 13,_=>rfl
 | 14,_=>rfl
 | 15,_=>rfl
 | 16,_=>rfl
 | 17,_=>rfl
 | n + 18,h=>absurd h (by omega)
theorem Cb.modk (x : Int) (k : Nat) (hk : 0 < k) (hk2 : k ≤ 4096) : ∃ (a b : Int) (m : Nat),Int.tmod x k = a ∧ IntKind.i64.wrap a = a ∧ IntKind.i64.wrap (a + (k : Int)) = b ∧ Int.tmod b k = (m : Int) ∧ IntKind.i64.wrap (m : Int) = (m : Int) ∧ m < k:=by
 have h1:=Int.tmod_lt_of_pos x (show (0 : Int) < k by omega)
 have h2:=Int.lt_tmod_of_pos x (show (0 : Int) < k by omega)
 have h3 : 0 ≤ Int.tmod (Int.tmod x k + k) k:=by
  rw [Int.tmod_eq_emod_of_nonneg (by omega)]
  exact Int.emod_nonneg _ (by omega)
 have h4 : Int.tmod (Int.tmod x k + k) k < k:=Int.tmod_lt_of_pos _ (by omega)
 refine ⟨Int.tmod x k,Int.tmod x k + k,(Int.tmod (Int.tmod x k + k) k).toNat,rfl,?_,?_,by omega,?_,by omega⟩
 ·rw [IntKind.wrap_i64];omega
 ·rw [IntKind.wrap_i64];omega
 ·rw [IntKind.wrap_i64];omega
theorem Cb.mod18 (x : Int) : ∃ (a b : Int) (m : Nat),Int.tmod x 18 = a ∧ IntKind.i64.wrap a = a ∧ IntKind.i64.wrap (a + 18) = b ∧ Int.tmod b 18 = (m : Int) ∧ IntKind.i64.wrap (m : Int) = (m : Int) ∧ m < 18:=Cb.modk x 18 (by decide) (by decide)
theorem Cb.mod4096 (x : Int) : ∃ (a b : Int) (m : Nat),Int.tmod x 4096 = a ∧ IntKind.i64.wrap a = a ∧ IntKind.i64.wrap (a + 4096) = b ∧ Int.tmod b 4096 = (m : Int) ∧ IntKind.i64.wrap (m : Int) = (m : Int) ∧ m < 4096:=Cb.modk x 4096 (by decide) (by decide)
theorem Cb.at_wrap {m : Nat} (h : m < 4096) : ∃ a : Nat,IntKind.i64.wrap ((m : Int) * 4) = (a : Int) ∧ IntKind.u32.wrap (a : Int) = (a : Int) ∧ a % 4 = 0 ∧ a ≤ 16384:=⟨4 * m,by rw [IntKind.wrap_i64];omega,by rw [IntKind.wrap_u32];omega,by omega,by omega⟩
theorem Cb.wd_len (i : Nat) : (Cb.wd i).length ≤ 10:=by
 by_cases h : i < 18
 ·have : ∀ i : Fin 18,(Cb.wd i.val).length ≤ 10:=by decide +kernel
  exact this ⟨i,h⟩
 ·have : Cb.wd i = []:=by
   unfold Cb.wd
   rw [List.getD_eq_getElem?_getD,List.getElem?_eq_none (by show 18 ≤ i;omega)]
   rfl
  rw [this]
  simp
theorem Cb.src_le : ∀ l : List Nat,(Cb.src l).length ≤ 11 * l.length
 | []=>Nat.le_refl _
 | i :: r=>by
  have:=Cb.src_le r
  have h:=Cb.wd_len i
  show (32 :: Cb.wd i ++ Cb.src r).length ≤ _
  simp only [List.length_append,List.length_cons]
  omega
theorem Cb.src_snoc (l : List Nat) (i : Nat) : Cb.src (l ++ [i]) = Cb.src l ++ (32 :: Cb.wd i):=by simp [Cb.src]
def Cb.head4 : List UInt8:=Cb.head3 ++ Cb.two
theorem Cb.source_eq (l : List Nat) : (Cb.head4 ++ Cb.src l) ++ (Cb.tail ++ [10]) = Cb.source l:=by
 unfold Cb.source Cb.l4 Cb.head4
 simp only [List.append_assoc]
theorem Cb.text_le (l : List L6.Line) (h : ∀ y ∈ l,(Lib.join (L6.lineWords y) [32]).length ≤ 256) : (L6.text l).length ≤ 257 * l.length:=by
 induction l with
 | nil=>exact Nat.le_refl _
 | cons x r ih=>
  have h1:=ih fun y hy=>h y (by simp [hy])
  have h2:=h x (by simp)
  have h3 : L6.text (x :: r) = L6.lineText x ++ L6.text r:=rfl
  rw [h3,List.length_append,List.length_cons]
  unfold L6.lineText
  rw [List.length_append,List.length_singleton]
  omega
theorem cbuild_any {w : World} (hT : L6.Tab w) {T : Cb.T} (h : Cb.Made T) (a : Nat) (ha : a % 4 = 0) (ha2 : a ≤ 16384) {o : List UInt8} {sy : List (List UInt8 × Nat)} (hA : As.assemble (Cb.full T) a = ⟨o,sy,0,0⟩) :
  Calls Tryz.prog 18 #[.string ⟨(Xc.text (Cb.W3 ++ [Cb.word Cb.fTwo T])).toArray⟩,.int .u32 (a : Int)] w (Im.BPost w ⟨o,sy,0⟩):=by
 obtain ⟨S,hr,hf⟩:=Cb.run_lines T h.ok
 have hlen:=h.len
 have hlf:=fun y hy=>Cb.fits_of (Cb.lines_fits T h.ok y hy)
 have hll : (Cb.lines T).length ≤ 200:=by
  unfold Cb.lines
  rw [List.length_append,List.length_map]
  show 20 + _ ≤ _
  omega
 have hxl : (Xc.text (Cb.W3 ++ [Cb.word Cb.fTwo T])).length ≤ 1000000000:=by
  rw [Cb.text_lines T h.ok]
  have:=Cb.text_le (Cb.lines T) fun y hy=>(hlf y hy).1.2
  omega
 have hfl : (Cb.full T).length ≤ 1000:=by
  unfold Cb.full
  rw [List.length_append,List.length_append,List.length_map]
  have:=Cb.pl_has.2.2.2
  show _ + (_ + 1) ≤ _
  omega
 have hok:=Cb.full_ok h
 have hpar:=Cb.parse T h.ok (by omega)
 have e : (⟨o,sy,0⟩ : Im.O) = Im.ofA (As.assemble (Cb.full T) a):=by rw [hA];rfl
 rw [e]
 rw [← hf] at hok hfl ⊢
 generalize Xc.text (Cb.W3 ++ [Cb.word Cb.fTwo T]) = X at *
 refine ibuild_any X a (Cb.lines T) (Im.fill (Im.end_ S)) S hT hxl hpar hr (by omega) (fun x hx=>?_) ?_ ?_ (by omega) ?_ (by omega)
 ·have:=(hlf x hx).2
  exact ⟨⟨Nat.le_trans this.labels (by decide),Nat.le_trans this.args (by decide)⟩,fun s hs=>Nat.le_trans (this.ars s hs) (by decide)⟩
 ·exact F8.plain_bare _ fun x hx=>⟨(hok x hx).kind,(hok x hx).made⟩
 ·intro x hx
  have:=hok x hx
  exact ⟨Nat.le_trans this.labels (by decide),Nat.le_trans this.args (by decide),fun s hs=>Nat.le_trans (this.ls s hs) (by decide)⟩
 ·intro x hx
  have:=hok x hx
  exact ⟨Nat.le_trans this.labels (by decide),Nat.le_trans this.args (by decide),fun s hs=>Nat.le_trans (this.ls s hs) (by decide),fun s hs=>Nat.le_trans (this.ars s hs) (by decide)⟩
set_option maxRecDepth 100000 in
set_option maxHeartbeats 4000000 in
theorem core_crossBuilt (v : Value) (l : List Int) (k : Int) (w : World) (h : Rd w 1 v l.length (Cb.ints l)) (hT : L6.Tab w) :
  Calls Tryz.prog 5 #[v,.int .i64 k] w fun e w'=>e = .returned (.bool true) ∧ Below w.heap.size w w':=by
 obtain ⟨A,c,rfl⟩:=h.form
 have HR:=Lib.hid h
 have HT:=Lib.hid hT
 have CK:=Lib.hid (fun W (hW : Below w.heap.size w W)=>xknows_any W (hT.kept hW))
 clear h hT
 by_cases hn : 40 < l.length
 ·have hn' : (40 : Int) < (l.length : Int):=by omega
  clear hn
  go_enter Tryz.func5,Tryz.ntmps5
  go_wp2_with (go_at_call 26;refine (CK.out _ (Below.refl _ _)).mono ?_;rintro e w1 ⟨rfl,hb1⟩)
  go_ret
  exact ⟨rfl,hb1⟩
 ·have hn' : ¬ (40 : Int) < (l.length : Int):=by omega
  have HN:=Lib.hid (show l.length ≤ 40 by omega)
  have hal : Below w.heap.size w (w.alloc (.cells Cb.allV 9)):=(Below.refl _ _).alloc (Nat.le_refl _) _
  have hbk:=Bk.fresh w 9 Cb.allV
  have hcat : (⟨Cb.head3.toArray⟩ : ByteArray) ++ ⟨#[58,32,84,87,79]⟩ = ⟨Cb.head4.toArray⟩:=app_eq Cb.head3 Cb.two
  clear hn
  go_enter Tryz.func5,Tryz.ntmps5
  go_wp2_with fail
  go_loopw [5,7] (fun s i wr=>∃ ms : List Nat,ms.length ≤ l.length ∧ (∀ m ∈ ms,m < 18) ∧ i = .int .i64 (ms.length : Int) ∧ s = .string ⟨(Cb.head4 ++ Cb.src ms).toArray⟩ ∧ Below w.heap.size w wr ∧ Bk wr w.heap.size 9 Cb.allV) (fun _ i _=>l.length - (intOf i).toNat)
  case atStart=>exact ⟨[],Nat.zero_le _,fun m hm=>(by cases hm),rfl,congrArg Value.string (app_eq Cb.head3 Cb.two),hal,hbk⟩
  case round=>
   clear hal hbk hcat
   obtain ⟨ms,hms,h18,rfl,rfl,hbr,hbk⟩:=hrel
   have HBR:=Lib.hid hbr
   have HBK:=Lib.hid hbk
   have HMS:=Lib.hid hms
   have H18:=Lib.hid h18
   have hp0l : (Cb.head4 ++ Cb.src ms).length ≤ 600:=by
    have h1:=Cb.src_le ms
    have h2:=HN.out
    rw [List.length_append]
    show 51 + _ ≤ 600
    omega
   by_cases hlt : ms.length < l.length
   ·have hlt' : (ms.length : Int) < (l.length : Int):=by omega
    obtain ⟨g,off,c',e,hg,q0⟩:=Cb.int_at (HR.out.kept hbr) hlt
    injection e with e1 e2 e3
    subst e1 e3
    obtain ⟨ma,mb,m,m1,m2,m3,m4,m5,m6⟩:=Cb.mod18 l[ms.length]
    generalize l[ms.length] = x at *
    have qa:=hbk.cell m
    rw [Cb.all_at m m6] at qa
    have hz:=Cb.wd_len m
    have HNX:=Lib.hid (show Cb.head4 ++ Cb.src (ms ++ [m]) = (Cb.head4 ++ Cb.src ms) ++ [32] ++ Cb.wd m from by rw [Cb.src_snoc];simp)
    have HMX:=Lib.hid (show ∀ q ∈ ms ++ [m],q < 18 from fun q hq=>by
     rcases List.mem_append.1 hq with hq | hq
     ·exact h18 q hq
     ·rw [List.mem_singleton.1 hq];exact m6)
    have HML:=Lib.hid (show (ms ++ [m]).length = ms.length + 1 from by simp)
    have wj : IntKind.i64.wrap ((ms.length : Int) + 1) = (ms.length : Int) + 1:=by
     have:=HN.out
     rw [IntKind.wrap_i64]
     omega
    have hm18 : (m : Int) < 18:=by omega
    obtain ⟨z,hzz⟩ : ∃ z,Cb.wd m = z:=⟨_,rfl⟩
    rw [hzz] at qa hz HNX
    obtain ⟨p0,hp0⟩ : ∃ p,Cb.head4 ++ Cb.src ms = p:=⟨_,rfl⟩
    rw [hp0] at HNX hp0l ⊢
    obtain ⟨p1,hp1⟩ : ∃ p,p0 ++ [32] = p:=⟨_,rfl⟩
    rw [hp1] at HNX
    obtain ⟨p2,hp2⟩ : ∃ p,p1 ++ z = p:=⟨_,rfl⟩
    rw [hp2] at HNX
    have hl1 : p1.length = p0.length + 1:=by rw [← hp1];simp
    have b1 : ¬ 9223372036854775807 < p0.length + 1:=by omega
    have b2 : ¬ 9223372036854775807 < p1.length + z.length:=by omega
    have hc1 : (⟨p0.toArray⟩ : ByteArray) ++ ⟨#[32]⟩ = ⟨p1.toArray⟩:=by rw [← hp1];exact app_eq p0 [32]
    have hc2 : (⟨p1.toArray⟩ : ByteArray) ++ ⟨z.toArray⟩ = ⟨p2.toArray⟩:=by rw [← hp2];exact app_eq p1 z
    have HL:=Lib.hid hlt
    generalize ms.length = j at *
    clear hbr hbk hms h18 hlt m6 hz hp0l hp0 hp1 hp2 hl1 hzz hg
    go_wp2_with fail
    go_roundw
    case rel=>exact ⟨ms ++ [m],by have:=HML.out;have:=HL.out;omega,HMX.out,by rw [HML.out];push_cast;rfl,by rw [HNX.out],HBR.out,HBK.out⟩
    case measure=>
     have:=HL.out
     simp only [intOf]
     omega
   ·have hlt' : ¬ (ms.length : Int) < (l.length : Int):=by omega
    have HS:=Lib.hid (Cb.source_eq ms)
    have CC:=Lib.hid (fun (hlen : (Cb.source ms).length ≤ 30000)=>xcompile_any (Cb.source ms) wr hlen (HT.out.kept hbr) (by rw [Cb.compile ms h18];cases Cb.out ms <;> simp))
    obtain ⟨p0,hp0⟩ : ∃ p,Cb.head4 ++ Cb.src ms = p:=⟨_,rfl⟩
    rw [hp0] at HS hp0l ⊢
    have b1 : ¬ 9223372036854775807 < p0.length + 13:=by omega
    have hc1 : (⟨p0.toArray⟩ : ByteArray) ++ ⟨#[32,59,32,73,77,77,69,68,73,65,84,69,10]⟩ = ⟨(Cb.source ms).toArray⟩:=by rw [← HS.out];exact app_eq p0 (Cb.tail ++ [10])
    have CC:=Lib.hid (CC.out (by rw [← HS.out,List.length_append];show _ + 13 ≤ _;omega))
    have HCO:=Lib.hid (Cb.compile ms h18)
    have HM40:=Lib.hid (show ms.length ≤ 40 by have:=HN.out;omega)
    have CKr:=Lib.hid (fun W (hW : Below wr.heap.size wr W)=>CK.out W (hbr.trans (hW.mono hbr.size)))
    generalize Cb.source ms = src at *
    clear hbr hbk hms h18 hp0 hp0l hlt
    go_wp2_with fail
    go_at_call 27
    refine CC.out.mono ?_
    rintro e w2 ⟨⟨r,hr,rfl⟩,hb2⟩
    rw [HCO.out] at hr
    have HB2:=Lib.hid hb2
    clear hb2
    cases ho : Cb.out ms with
    | none=>
     rw [ho] at hr
     injection hr with hr
     subst hr
     clear ho
     go_wp2_with (first | (go_at_call 28;refine (xnum_any _ _).mono ?_;rintro e w' ⟨rfl,rfl⟩) | (go_at_call 26;refine (CKr.out _ HB2.out).mono ?_;rintro e w3 ⟨rfl,hb3⟩))
     go_ret
     exact ⟨rfl,HBR.out.trans ((HB2.out.trans (hb3.mono HB2.out.size)).mono HBR.out.size)⟩
    | some T=>
     rw [ho] at hr
     injection hr with hr
     subst hr
     have hmd:=Cb.made HM40.out ho
     clear ho
     obtain ⟨ka,kb,m4,k1,k2,k3,k4,k5,k6⟩:=Cb.mod4096 k
     obtain ⟨a,a1,a2,a3,a4⟩:=Cb.at_wrap k6
     obtain ⟨o,sy,e0,hpl,hl1,hl2,hl3,hl4,hl5,hl6⟩:=Cb.place hmd a a3 a4
     have CB:=Lib.hid (cbuild_any (HT.out.kept (HBR.out.trans (HB2.out.mono HBR.out.size))) hmd a a3 a4 hpl)
     generalize Xc.text (Cb.W3 ++ [Cb.word Cb.fTwo T]) = X at *
     clear hmd k6 hpl
     go_wp2_with (first | (go_at_call 28;refine (xnum_any _ _).mono ?_;rintro e w' ⟨rfl,rfl⟩))
     go_at_call 18
     refine CB.out.mono ?_
     rintro e w3 ⟨vb,vs,rfl,hrb,hrs,hfb,hfs,hb3⟩
     dsimp only at hrs ⊢
     obtain ⟨Ab,cb,rfl⟩:=hrb.form
     obtain ⟨As_,cs,rfl⟩:=hrs.form
     dsimp only at hrb hrs ⊢
     have HB3:=Lib.hid (HB2.out.trans (hb3.mono HB2.out.size))
     have hal : Below w3.heap.size w3 (w3.alloc (.cells #[.slice Ab o.length cb,.slice As_ sy.length cs] 45)):=(Below.refl _ _).alloc (Nat.le_refl _) _
     have hbk:=Bk.fresh w3 45 #[.slice Ab o.length cb,.slice As_ sy.length cs]
     obtain ⟨w4,hw4⟩ : ∃ w4,w3.alloc (.cells #[.slice Ab o.length cb,.slice As_ sy.length cs] 45) = w4:=⟨_,rfl⟩
     rw [hw4] at hal hbk
     have HBK4:=Lib.hid hbk
     have HRS:=Lib.hid (hrs.kept hal)
     have HB4:=Lib.hid (HB3.out.trans (hal.mono HB3.out.size))
     have hsl : sy.length ≤ 5000000000:=by omega
     have CA:=Lib.hid (fun (s : List UInt8) W (hW : Below w4.heap.size w4 W)=>iat_any (.slice Ab o.length cb) (.slice As_ sy.length cs) sy s W (HRS.out.kept hW) hsl)
     have A1:=Lib.hid (CA.out [61,48,79,78,69])
     have A2:=Lib.hid (CA.out [61,48,84,87,79])
     have A3:=Lib.hid (CA.out [61,48,84,87,79,36])
     rw [show As.look sy [61,48,79,78,69] = some (a + 92) from hl1] at A1
     rw [show As.look sy [61,48,84,87,79] = some (a + 144) from hl2] at A2
     rw [show As.look sy [61,48,84,87,79,36] = some (a + e0) from hl3] at A3
     obtain ⟨p1,hp1⟩ : ∃ p,a + 92 = p:=⟨_,rfl⟩
     obtain ⟨p2,hp2⟩ : ∃ p,a + 144 = p:=⟨_,rfl⟩
     obtain ⟨p3,hp3⟩ : ∃ p,a + e0 = p:=⟨_,rfl⟩
     rw [hp1] at A1
     rw [hp2] at A2
     rw [hp3] at A3
     dsimp only [Option.getD,Option.isSome] at A1 A2 A3
     have o1 : (p1 : Int) < (p2 : Int):=by omega
     have o2 : IntKind.u32.wrap ((p2 : Int) + 20) = (p2 : Int) + 20:=by rw [IntKind.wrap_u32];omega
     have o3 : (p2 : Int) + 20 ≤ (p3 : Int):=by omega
     have x0:=hbk.cell 0
     have x1:=hbk.cell 1
     clear hrb hrs hfb hfs hb3 hal hbk hl1 hl2 hl3 hl4 hl5 hl6 hp1 hp2 hp3 a1 a2 a3 a4 k1 k2 k3 k4 k5 CA
     go_wp2_with fail
     go_at_call 20
     refine (A1.out w4 (Below.refl _ _)).mono ?_
     rintro e w5 ⟨rfl,hb5⟩
     have HB5:=Lib.hid hb5
     have x0:=(HBK4.out.kept hb5).cell 0
     have x1:=(HBK4.out.kept hb5).cell 1
     clear hb5
     go_wp2_with fail
     go_at_call 20
     refine (A2.out w5 HB5.out).mono ?_
     rintro e w6 ⟨rfl,hb6⟩
     have HB6:=Lib.hid (HB5.out.trans (hb6.mono HB5.out.size))
     clear hb6
     have x0:=(HBK4.out.kept HB6.out).cell 0
     have x1:=(HBK4.out.kept HB6.out).cell 1
     go_wp2_with fail
     go_at_call 20
     refine (A3.out w6 HB6.out).mono ?_
     rintro e w7 ⟨rfl,hb7⟩
     have HB7:=Lib.hid (HB6.out.trans (hb7.mono HB6.out.size))
     have HB74:=Lib.hid (HB4.out.trans (HB7.out.mono HB4.out.size))
     clear hb7
     go_wp2_with (first | (go_at_call 28;refine (xnum_any _ _).mono ?_;rintro e w' ⟨rfl,rfl⟩) | (go_at_call 26;refine (CKr.out _ HB74.out).mono ?_;rintro e w8 ⟨rfl,hb8⟩))
     go_ret
     exact ⟨rfl,HBR.out.trans ((HB74.out.trans (hb8.mono HB74.out.size)).mono HBR.out.size)⟩
open Go.Joins Go.ChangeShapes Go.WideShapes Go.Deep
theorem open_int_of {H : Type} {enc : TypeId × Value → H} {w : World} {n : Nat} {cs : List Value} {y : DataW H × List MemPlace} (hl : cs.length = 1)
  (ht : DataW.trod enc Tryz.prog w 0 (fun _=>true) true n 3 cs = some y) : ∃ x : Int,cs = [.int .i64 x] ∧ True:=by
 obtain ⟨a,k1,_,w1⟩:=DataW.trod_int Tryz.underlying3 ht
 exact ⟨a,k1,trivial⟩
set_option maxRecDepth 100000 in
theorem open_ints12 {H : Type} {enc : TypeId × Value → H} {w : World} {b0 : Nat} {v : Value} {d : DataW H} {p : List MemPlace}
  (hv : Value.okWide Tryz.prog w .any b0 60 v) (h : DataW.Trod enc Tryz.prog w 0 (fun _=>true) true 60 v d p) :
  ∃ l : List Int,Rd w 1 v l.length (l.flatMap fun x=>[.int .i64 x]) ∧ (∀ x ∈ l,True) ∧ l.length ≤ maxLen:=
 have hC : Tryz.prog.cellsOf 3 = 1:=by kernel_rfl
 open_rows (spare:=fun _=>true) (fun x : Int=>[.int .i64 x]) 1 (by decide) (fun _=>rfl) (fun _=>True) Tryz.underlying60 hC (fun _=>rfl) (fun n cs y hl ht=>open_int_of hl ht) hv h
end Go.Proofs.YtpcpaoeajcjoiaaGreatDoor
namespace Go.Proofs.YtpcpaoeajcjoiaaGreatDoor
open Go.RowKit Kit
theorem walk_crossBuilt (v : Value) (l : List Int) (k : Int) (w : World) (h : Rd w 1 v l.length (l.flatMap fun x=>[.int .i64 x]) ∧ (∀ x ∈ l,True) ∧ l.length ≤ maxLen) (g : -9223372036854775808 ≤ k ∧ k ≤ 9223372036854775807) (hL : laidMetH Tryz.prog Rows.crossBuiltRow.laid w) :
  Calls Tryz.prog 5 #[v,.int .i64 k] w fun e w'=>e = .returned (.bool true) ∧ Below w.heap.size w w':=
 core_crossBuilt v l k w (by rw [show Cb.ints l = l.flatMap fun x=>[.int .i64 x] from by unfold Cb.ints;rw [List.map_eq_flatMap]];exact h.1) (L6.tab_of hL)
end Go.Proofs.YtpcpaoeajcjoiaaGreatDoor
