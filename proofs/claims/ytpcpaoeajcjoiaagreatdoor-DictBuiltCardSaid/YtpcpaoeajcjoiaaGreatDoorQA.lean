/- Texts joined, what is not reached left out. -/
import Derived.Lib.Strings
import Derived.Test.YtpcpaoeajcjoiaaGreatDoorRows
import Derived.Test.YtpcpaoeajcjoiaaGreatDoorKA
import Derived.StillTailTactics
import Derived.BigQuiet
import Derived.Laws.BitsAllLaws
import Derived.Deep.RegionLaw
import Derived.Deep.RegionHeld3
import Derived.Outline
import Derived.Deep.RegionWith
import Derived.Laws.MakeOwn
set_option linter.unusedVariables false
set_option linter.unusedSimpArgs false
namespace Go.Proofs.YtpcpaoeajcjoiaaGreatDoor.Mm
def hits (hs:List (Nat × Nat)) (a n:Nat):Bool:=hs.any fun h=>decide (h.1 < h.2) && (decide (h.1≤a+n - 1) && decide (a < h.2))
def ask (len:Nat) (hs:List (Nat × Nat)) (a:Nat) (n:Int):Int:=
 if ¬(n = 1 ∨ n = 2 ∨ n = 4) then 1 else if a % n.toNat ≠ 0 then 31 else if len < a+n.toNat then 30 else if hits hs a n.toNat = true then 30 else 0
def val:List UInt8→Nat
 | []=>0
 | c :: t=>c.toNat+256 * val t
def bytesOf (v:Nat):Nat→List UInt8
 | 0=>[]
 | n+1=>UInt8.ofNat v :: bytesOf (v / 256) n
def put (b:List UInt8) (a:Nat) (l:List UInt8):List UInt8:=b.take a ++ (l ++ b.drop (a+l.length))
def get (b:List UInt8) (a n:Nat):List UInt8:=(b.drop a).take n
theorem bytesOf_length (v n:Nat):(bytesOf v n).length = n:=by
 induction n generalizing v with
 | zero=>rfl
 | succ n ih=>simp [bytesOf,ih]
theorem put_length (b:List UInt8) (a:Nat) (l:List UInt8) (h:a+l.length≤b.length):(put b a l).length = b.length:=by
 simp [put];omega
theorem get_length (b:List UInt8) (a n:Nat) (h:a+n≤b.length):(get b a n).length = n:=by
 simp [get];omega
theorem bytesOf_getD (v n j:Nat) (h:j < n):(bytesOf v n).getD j 0 = UInt8.ofNat (v / 256 ^ j):=by
 induction n generalizing v j with
 | zero=>omega
 | succ n ih=>
  cases j with
  | zero=>simp [bytesOf]
  | succ j=>
   have:=ih (v / 256) j (by omega)
   rw [bytesOf,List.getD_cons_succ,this,Nat.div_div_eq_div_mul,Nat.pow_succ,Nat.mul_comm]
theorem getD_put_far (b:List UInt8) (a:Nat) (l:List UInt8) (i:Nat) (h:a+l.length≤b.length) (hi:i < a ∨ a+l.length≤i):(put b a l).getD i 0 = b.getD i 0:=by
 have ha:(b.take a).length = a:=by simp;omega
 simp only [put,List.getD]
 rcases hi with hi | hi
 ·rw [List.getElem?_append_left (by omega),List.getElem?_take_of_lt hi]
 ·rw [List.getElem?_append_right (by omega),ha,List.getElem?_append_right (by omega),List.getElem?_drop]
  congr 2;omega
theorem put_nil (b:List UInt8) (a:Nat):put b a [] = b:=by simp [put]
theorem get_getD (b:List UInt8) (a n j:Nat) (h:j < n):(get b a n).getD j 0 = b.getD (a+j) 0:=by
 simp only [get,List.getD,List.getElem?_take,h,if_true,List.getElem?_drop]
end Go.Proofs.YtpcpaoeajcjoiaaGreatDoor.Mm
namespace Go.Proofs.YtpcpaoeajcjoiaaGreatDoor
open Go.RowKit Kit
theorem mret_int {k:IntKind} {a b:Int} (h:a = b):Ending.returned (.int k a) = .returned (.int k b):=by rw [h]
theorem mret_bool {a b:Bool} (h:a = b):Ending.returned (.bool a) = .returned (.bool b):=by rw [h]
theorem mbt:ByteTy Tryz.prog 26 5:=
 ⟨Tryz.underlying26,Tryz.underlying5,by
  have h:(Tryz.prog.info? 5).map (fun i=>(i.zero,i.size,i.bytes)) = some (some (.int .u8 0),1,1):=by kernel_rfl
  obtain ⟨i,h1,h2,h3,h4⟩:=info_parts h
  exact ⟨i,h1,h2,h3,h4⟩⟩
def Mm.hc (hs:List (Nat × Nat)):List Value:=hs.flatMap fun h=>[.int .u32 h.1,.int .u32 h.2]
theorem Mm.hc_one (hs:List (Nat × Nat)):∀ u ∈ Mm.hc hs,u.oneCell' = true:=by
 intro u hu
 simp only [Mm.hc,List.mem_flatMap,List.mem_cons,List.not_mem_nil,or_false] at hu
 obtain ⟨h,_,rfl | rfl⟩:=hu <;> rfl
theorem Mm.hc_at (hs:List (Nat × Nat)) (j:Nat) (hj:j < hs.length):(Mm.hc hs)[j * 2]? = some (.int .u32 (hs.getD j (0,0)).1)∧(Mm.hc hs)[j * 2+1]? = some (.int .u32 (hs.getD j (0,0)).2):=by
 induction hs generalizing j with
 | nil=>simp at hj
 | cons h t ih=>
  cases j with
  | zero=>simp [Mm.hc]
  | succ j=>
   have:=ih j (by simpa using hj)
   simp only [Mm.hc,List.flatMap_cons,List.getD_cons_succ] at this ⊢
   rw [show (j+1) * 2 = j * 2+2 by omega,show j * 2+2+1 = (j * 2+1)+2 by omega,List.getElem?_append_right (by simp),List.getElem?_append_right (by simp)]
   simpa using this
structure OwnM (w:World) (gm gb:Nat) (b:List UInt8) (hs:List (Nat × Nat)):Prop where
 obj:∃ hv cap,Bk w gm 86 #[.slice (some ⟨gb,0,none⟩) b.length cap,hv]∧Rw w gb 5 cap b∧cap≤maxLen∧Rd w 2 hv hs.length (Mm.hc hs)∧Off hv gb
 lo:4≤b.length
 hi:b.length≤1048576
 few:hs.length≤16
 small:∀ j,j < hs.length→(hs.getD j (0,0)).1 < 4294967296∧(hs.getD j (0,0)).2 < 4294967296
theorem OwnM.cells {w:World} {gm gb:Nat} {b:List UInt8} {hs:List (Nat × Nat)} (h:OwnM w gm gb b hs) :
  ∃ A c cap,w.cell? ⟨gm,0,none⟩ = some (.slice (some ⟨gb,0,none⟩) b.length cap)∧w.cell? ⟨gm,1,none⟩ = some (.slice A hs.length c)∧Rw w gb 5 cap b∧cap≤maxLen∧gm < w.heap.size∧gm ≠ gb:=by
 obtain ⟨hv,cap,h1,h2,h3,h4,_⟩:=h.obj
 obtain ⟨A,c,rfl⟩:=h4.form
 exact ⟨A,c,cap,h1.cell 0,h1.cell 1,h2,h3,h1.lt,h2.ne h1 (by decide)⟩
theorem mq34 (w:World) (a:Option Addr) (n c:Nat):(binOp .eql 26 (.slice a n c) (.slice none 0 0)).run Tryz.prog w = .ok (.bool a.isNone) w:=Lib.run_eql_slice_nil w _ _ a n c 0 0 Tryz.underlying26
theorem none_own (w:World) (gm gb n c:Nat) (h:w.cell? ⟨gm,0,none⟩ = some (.slice (some ⟨gb,0,none⟩) n c)) :
  Calls Tryz.prog 79 #[.pointer (some ⟨gm,0,none⟩)] w fun e w'=>e = .returned (.bool false)∧w = w':=by
 have hq:=mq34
 go_enter Tryz.func79,Tryz.ntmps79
 go_wp2
 go_ret
 exact ⟨rfl,rfl⟩
def Mm.thereB (len a:Nat) (n:Int):Bool:=decide (0≤n∧n≤len∧(a:Int)≤len - n)
theorem there_own (w:World) (gm gb len c a:Nat) (n:Int) (hl:len≤1048576) (ha:a < 4294967296) (h:w.cell? ⟨gm,0,none⟩ = some (.slice (some ⟨gb,0,none⟩) len c)) :
  Calls Tryz.prog 80 #[.pointer (some ⟨gm,0,none⟩),.int .u32 a,.int .i64 n] w fun e w'=>e = .returned (.bool (Mm.thereB len a n))∧w = w':=by
 by_cases h1:0≤n
 ·by_cases h2:n≤len
  ·have HT:Hid (Mm.thereB len a n = decide ((a:Int)≤len - n)):=by simp [Hid,Mm.thereB,h1,h2]
   go_enter Tryz.func80,Tryz.ntmps80
   go_wp2
   go_ret
   refine ⟨mret_bool ?_,rfl⟩
   rw [HT.out]
  ·have HT:Hid (Mm.thereB len a n = false):=by simp [Hid,Mm.thereB,h1,h2]
   go_enter Tryz.func80,Tryz.ntmps80
   go_wp2
   go_ret
   exact ⟨mret_bool HT.out.symm,rfl⟩
 ·have HT:Hid (Mm.thereB len a n = false):=by simp [Hid,Mm.thereB,h1]
  go_enter Tryz.func80,Tryz.ntmps80
  go_wp2
  go_ret
  exact ⟨mret_bool HT.out.symm,rfl⟩
theorem ask_arg (w:World) (gm gb n c a:Nat) (k:Int) (ha:a < 4294967296) (h:w.cell? ⟨gm,0,none⟩ = some (.slice (some ⟨gb,0,none⟩) n c)) (h1:k ≠ 1) (h2:k ≠ 2) (h4:k ≠ 4) :
  Calls Tryz.prog 83 #[.pointer (some ⟨gm,0,none⟩),.int .u32 a,.int .i64 k] w fun e w'=>e = .returned (.int .i64 1)∧w = w':=by
 have g1:(k != 1) = true:=by simpa using h1
 have g2:(k != 2) = true:=by simpa using h2
 have g4:(k != 4) = true:=by simpa using h4
 clear h1 h2 h4
 go_enter Tryz.func83,Tryz.ntmps83
 go_wp2_with (go_at_call 79;refine (none_own _ gm gb n c h).mono ?_;rintro e w' ⟨rfl,rfl⟩)
 go_ret
 exact ⟨rfl,rfl⟩
def Mm.askB (len:Nat) (hs:List (Nat × Nat)) (a k:Nat):Int:=if a % k ≠ 0 then 31 else if len < a+k then 30 else if Mm.hits hs a k = true then 30 else 0
def Mm.hitB (h:Nat × Nat) (a k:Nat):Bool:=decide (h.1 < h.2) && (decide (h.1≤a+k - 1) && decide (a < h.2))
theorem Mm.hits_eq (hs:List (Nat × Nat)) (a k:Nat):Mm.hits hs a k = hs.any fun h=>Mm.hitB h a k:=rfl
theorem Mm.hits_some {hs:List (Nat × Nat)} {a k j:Nat} (hj:j < hs.length) (h:Mm.hitB (hs.getD j (0,0)) a k = true):Mm.hits hs a k = true:=by
 rw [Mm.hits_eq,List.any_eq_true]
 exact ⟨hs[j],List.getElem_mem hj,by simpa [List.getD,List.getElem?_eq_getElem hj] using h⟩
theorem Mm.hits_none {hs:List (Nat × Nat)} {a k:Nat} (h:∀ j,j < hs.length→Mm.hitB (hs.getD j (0,0)) a k = false):Mm.hits hs a k = false:=by
 rw [Mm.hits_eq,List.any_eq_false]
 intro x hx
 obtain ⟨j,hj,rfl⟩:=List.mem_iff_getElem.1 hx
 simpa [List.getD,List.getElem?_eq_getElem hj] using h j hj
theorem mand (a:Nat) (k:Nat) (ha:a < 4294967296) (hk:k = 1 ∨ k = 2 ∨ k = 4):(bits .and .u32 (a:Int) ((k:Int) - 1) != 0) = decide (a % k ≠ 0):=by
 have e:bits .and .u32 (a:Int) ((k:Int) - 1) = ((a % k:Nat):Int):=by
  rcases hk with rfl | rfl | rfl
  ·have:=u32_and_nat a 0 ha (by decide)
   simpa [Nat.mod_one] using this
  ·have:=u32_and_nat a 1 ha (by decide)
   simpa [Nat.and_one_is_mod] using this
  ·have:=u32_and_nat a 3 ha (by decide)
   have h3:a &&& 3 = a % 4:=Nat.and_two_pow_sub_one_eq_mod a 2
   rw [h3] at this
   simpa using this
 rw [e,Bool.eq_iff_iff];simp;omega
set_option maxHeartbeats 1000000 in
theorem ask_wide (w:World) (gm gb:Nat) (b:List UInt8) (hs:List (Nat × Nat)) (a k:Nat) (ha:a < 4294967296) (h:OwnM w gm gb b hs) (hk:k = 1 ∨ k = 2 ∨ k = 4) :
  Calls Tryz.prog 83 #[.pointer (some ⟨gm,0,none⟩),.int .u32 a,.int .i64 k] w fun e w'=>e = .returned (.int .i64 (Mm.askB b.length hs a k))∧Below w.heap.size w w':=by
 obtain ⟨A,c,cap,c0,c1,-,-,hgm,-⟩:=h.cells
 have hN:=Lib.hid (none_own w gm gb _ _ c0)
 have hT:=Lib.hid (there_own w gm gb _ _ a k h.hi ha c0)
 have hX:=mand a k ha hk
 have hlo:=h.lo
 have hhi:=h.hi
 have hk1:(1:Int)≤k:=by omega
 have hk2:(k:Int)≤4:=by omega
 have gs:((k:Int) != 1) = false ∨ (((k:Int) != 1) = true∧((k:Int) != 2) = false) ∨ (((k:Int) != 1) = true∧((k:Int) != 2) = true∧((k:Int) != 4) = false):=by
  rcases hk with rfl | rfl | rfl <;> simp
 have HA:Hid (Mm.askB b.length hs a k = if a % k ≠ 0 then 31 else if b.length < a+k then 30 else if Mm.hits hs a k = true then 30 else 0):=rfl
 have hTB:Mm.thereB b.length a k = decide (a+k≤b.length):=by
  unfold Mm.thereB;rw [Bool.eq_iff_iff];simp;omega
 rw [hTB] at hT
 clear hTB hk
 have hH:∀ j,j < hs.length→∀ W,Below w.heap.size w W→∃ g off,A = some ⟨g,off,none⟩∧W.cell? ⟨g,off+j * 2,none⟩ = some (.int .u32 (hs.getD j (0,0)).1)∧W.cell? ⟨g,off+j * 2+1,none⟩ = some (.int .u32 (hs.getD j (0,0)).2):=by
  intro j hj W hb
  obtain ⟨hv,cap',hobj,-,-,hrd,_⟩:=h.obj
  obtain ⟨A',c',rfl⟩:=hrd.form
  have e1:A' = A:=by
   have:=hobj.cell 1
   rw [c1] at this
   simp at this
   exact this.1.symm
  subst e1
  obtain ⟨_,A',c',e,_,_,h4⟩:=hrd.kept hb
  obtain ⟨g,off,rfl,hg,hc⟩:=h4 (by omega)
  injection e with e
  subst e
  exact ⟨g,off,rfl,hc _ _ (Mm.hc_at hs j hj).1,by have:=hc _ _ (Mm.hc_at hs j hj).2;rwa [← Nat.add_assoc] at this⟩
 have HH:=Lib.hid hH
 have hfew:=h.few
 have HS:=Lib.hid h.small
 clear hH
 have HC:=Lib.hid (show ∀ W,Below w.heap.size w W→W.cell? ⟨gm,1,none⟩ = some (.slice A hs.length c) from fun W hb=>(hb.cell (p:=⟨gm,1,none⟩) hgm).trans c1)
 clear h
 by_cases x1:a % k ≠ 0
 ·rw [if_pos x1] at HA
  have hX1:(bits .and .u32 (a:Int) ((k:Int) - 1) != 0) = true:=by rw [hX];simpa using x1
  clear hX x1
  generalize Mm.askB b.length hs a k = R at *
  generalize b.length = len at *
  rcases gs with g1 | ⟨g1,g2⟩ | ⟨g1,g2,g3⟩
  all_goals
   go_enter Tryz.func83,Tryz.ntmps83
   go_wp2_with (go_at_call 79;refine hN.out.mono ?_;rintro e w' ⟨rfl,rfl⟩)
   go_ret
   exact ⟨mret_int HA.out.symm,Below.refl _ _⟩
 rw [if_neg x1] at HA
 have hX1:(bits .and .u32 (a:Int) ((k:Int) - 1) != 0) = false:=by rw [hX];simpa using x1
 clear hX x1
 by_cases x2:b.length < a+k
 ·rw [if_pos x2] at HA
  have hT2:decide (a+k≤b.length) = false:=by simp;omega
  rw [hT2] at hT
  clear hT2 x2
  generalize Mm.askB b.length hs a k = R at *
  generalize b.length = len at *
  rcases gs with g1 | ⟨g1,g2⟩ | ⟨g1,g2,g3⟩
  all_goals
   go_enter Tryz.func83,Tryz.ntmps83
   go_wp2_with (first | (go_at_call 79;refine hN.out.mono ?_;rintro e w' ⟨rfl,rfl⟩) | (go_at_call 80;refine hT.out.mono ?_;rintro e w' ⟨rfl,rfl⟩))
   go_ret
   exact ⟨mret_int HA.out.symm,Below.refl _ _⟩
 rw [if_neg x2] at HA
 have hT2:decide (a+k≤b.length) = true:=by simp;omega
 rw [hT2] at hT
 have x3:a+k≤1048576:=by omega
 clear hT2 x2
 generalize Mm.askB b.length hs a k = R at *
 generalize b.length = len at *
 rcases gs with g1 | ⟨g1,g2⟩ | ⟨g1,g2,g3⟩
 all_goals
  go_enter Tryz.func83,Tryz.ntmps83
  go_wp2_with (first | (go_at_call 79;refine hN.out.mono ?_;rintro e w' ⟨rfl,rfl⟩) | (go_at_call 80;refine hT.out.mono ?_;rintro e w' ⟨rfl,rfl⟩))
  clear hX1 c0 c1
  go_loopw [48] (fun i wr=>∃ j:Nat,j≤hs.length∧i = .int .i64 j∧(∀ t,t < j→Mm.hitB (hs.getD t (0,0)) a k = false)∧Below w.heap.size w wr) (fun i _=>hs.length - (intOf i).toNat)
  case atStart=>exact ⟨0,Nat.zero_le _,rfl,fun t ht=>absurd ht (by omega),Below.refl _ _⟩
  case round=>
   obtain ⟨j,hj,rfl,hno,hbr⟩:=hrel
   by_cases hlt:j < hs.length
   ·obtain ⟨g,off,hA,c0,c1⟩:=HH.out j hlt wr hbr
    obtain ⟨s1,s2⟩:=HS.out j hlt
    have HN:(Mm.hitB (hs.getD j (0,0)) a k = true→Mm.hits hs a k = true):=Mm.hits_some hlt
    have HJ:Hid (Mm.hitB (hs.getD j (0,0)) a k = (decide ((hs.getD j (0,0)).1 < (hs.getD j (0,0)).2) && (decide ((hs.getD j (0,0)).1≤a+k - 1) && decide (a < (hs.getD j (0,0)).2)))):=rfl
    have HO:=Lib.hid hno
    have HB:=Lib.hid hbr
    have HNN:=Lib.hid HN
    subst hA
    have HW:=hbr.size
    clear hno hbr HN
    generalize hh:hs.getD j (0,0) = h at *
    have hh':=Lib.hid hh
    clear hh
    obtain ⟨p,q⟩:=h
    dsimp only at c0 c1 s1 s2 HJ
    by_cases y1:(p:Int) < q
    ·by_cases y2:(p:Int)≤(a:Int)+((k:Int) - 1)
     ·by_cases y3:(a:Int) < q
      ·go_wp2
       go_ret
       exact ⟨mret_int (by rw [HA.out,if_pos (HNN.out (by rw [HJ.out];simp;omega))]),(HB.out.alloc HW _)⟩
      ·go_wp2
       go_roundw
       case rel=>exact ⟨j+1,by omega,by go_num,fun t ht=>by
        by_cases e:t = j
        ·subst e;rw [hh'.out,HJ.out];simp;omega
        ·exact HO.out t (by omega),HB.out.alloc HW _⟩
       case measure=>simp [intOf];omega
     ·go_wp2
      go_roundw
      case rel=>exact ⟨j+1,by omega,by go_num,fun t ht=>by
       by_cases e:t = j
       ·subst e;rw [hh'.out,HJ.out];simp;omega
       ·exact HO.out t (by omega),HB.out.alloc HW _⟩
      case measure=>simp [intOf];omega
    ·go_wp2
     go_roundw
     case rel=>exact ⟨j+1,by omega,by go_num,fun t ht=>by
      by_cases e:t = j
      ·subst e;rw [hh'.out,HJ.out];simp;omega
      ·exact HO.out t (by omega),HB.out.alloc HW _⟩
     case measure=>simp [intOf];omega
   ·obtain rfl:j = hs.length:=by omega
    have HF:=Lib.hid (Mm.hits_none hno)
    clear hno
    go_wp2
    go_ret
    exact ⟨mret_int (by rw [HA.out,HF.out];rfl),hbr⟩
theorem ask_own (w:World) (gm gb:Nat) (b:List UInt8) (hs:List (Nat × Nat)) (a:Nat) (n:Int) (ha:a < 4294967296) (h:OwnM w gm gb b hs) :
  Calls Tryz.prog 83 #[.pointer (some ⟨gm,0,none⟩),.int .u32 a,.int .i64 n] w fun e w'=>e = .returned (.int .i64 (Mm.ask b.length hs a n))∧Below w.heap.size w w':=by
 by_cases hn:n = 1 ∨ n = 2 ∨ n = 4
 ·obtain ⟨k,rfl⟩:=Int.eq_ofNat_of_zero_le (show 0≤n by omega)
  have e:Mm.ask b.length hs a k = Mm.askB b.length hs a k:=by
   unfold Mm.ask Mm.askB;rw [if_neg (fun h=>h hn),Int.toNat_natCast]
  rw [e]
  exact ask_wide w gm gb b hs a k ha h (by omega)
 ·have e:Mm.ask b.length hs a n = 1:=by unfold Mm.ask;rw [if_pos hn]
  rw [e]
  obtain ⟨A,c,cap,c0,c1,-⟩:=h.cells
  exact (ask_arg w gm gb _ _ a n ha c0 (by omega) (by omega) (by omega)).mono fun e w' ⟨h1,h2⟩=>⟨h1,h2 ▸ Below.refl _ _⟩
theorem OwnM.kept {w w':World} {gm gb:Nat} {b:List UInt8} {hs:List (Nat × Nat)} (h:OwnM w gm gb b hs) (hb:Below w.heap.size w w'):OwnM w' gm gb b hs:=by
 obtain ⟨hv,cap,h1,h2,h3,h4,h5⟩:=h.obj
 exact ⟨⟨hv,cap,h1.kept hb,h2.kept hb,h3,h4.kept hb,h5⟩,h.lo,h.hi,h.few,h.small⟩
def OffM (w:World) (t:TypeId) (gm g:Nat):Prop:=∀ x hv,Bk w gm t #[x,hv]→Off hv g
theorem OffM.same {w w':World} {t:TypeId} {gm g:Nat} (h:OffM w t gm g) (e:w'.heap[gm]? = w.heap[gm]?):OffM w' t gm g:=fun x hv hb=>h x hv (e.symm.trans hb)
theorem OwnM.but {w w':World} {gm gb g:Nat} {b:List UInt8} {hs:List (Nat × Nat)} (h:OwnM w gm gb b hs) (hb:But g w w') (h1:gm ≠ g) (h2:gb ≠ g) (h3:OffM w 86 gm g):OwnM w' gm gb b hs:=by
 obtain ⟨hv,cap,k1,k2,k3,k4,k5⟩:=h.obj
 exact ⟨⟨hv,cap,hb.bk k1 h1,k2.but hb h2,k3,k4.but hb (h3 _ hv k1),k5⟩,h.lo,h.hi,h.few,h.small⟩
theorem OwnM.wrote {w w':World} {gm gb:Nat} {b b':List UInt8} {hs:List (Nat × Nat)} (h:OwnM w gm gb b hs) (hb:But gb w w') (hl:b'.length = b.length) (hd:∀ cap,Rw w gb 5 cap b→Rw w' gb 5 cap b'):OwnM w' gm gb b' hs:=by
 obtain ⟨hv,cap,k1,k2,k3,k4,k5⟩:=h.obj
 have hne:gm ≠ gb:=k2.ne k1 (by decide)
 exact ⟨⟨hv,cap,by rw [hl];exact hb.bk k1 hne,hd cap k2,k3,k4.but hb k5,k5⟩,by rw [hl];exact h.lo,by rw [hl];exact h.hi,h.few,h.small⟩
theorem Rw.uniq {w:World} {g cap cap':Nat} {t:TypeId} {b b':List UInt8} (h:Rw w g t cap b) (h':Rw w g t cap' b'):cap = cap':=by
 obtain ⟨cur,h1,h2,_⟩:=h
 obtain ⟨cur',h1',h2',_⟩:=h'
 have:=(h1.uniq h1').2
 have e:cur = cur':=by simpa using this
 rw [← h2,← h2',e]
set_option maxRecDepth 20000 in
theorem write_ok (w:World) (gm gb:Nat) (b:List UInt8) (hs:List (Nat × Nat)) (a k v:Nat) (ha:a < 4294967296) (hv:v < 4294967296) (h:OwnM w gm gb b hs) (hk:k = 1 ∨ k = 2 ∨ k = 4) (hak:a+k≤b.length) (h0:Mm.ask b.length hs a k = 0) :
  Calls Tryz.prog 41 #[.pointer (some ⟨gm,0,none⟩),.int .u32 a,.int .i64 k,.int .u32 v] w fun e w'=>e = .returned (.int .i64 0)∧OwnM w' gm gb (Mm.put b a (Mm.bytesOf v k)) hs∧But gb w w':=by
 have hA:=ask_own w gm gb b hs a k ha h
 rw [h0] at hA
 have H:=Lib.hid hA
 have HM:=Lib.hid h
 have hhi:=h.hi
 clear hA h0 h
 have hk1:(1:Int)≤k:=by omega
 have hk4:(k:Int)≤4:=by omega
 have hak':(a:Int)+k≤b.length:=by omega
 have hhi':(b.length:Int)≤1048576:=by omega
 have hak2:(a:Int)≤b.length:=by omega
 go_enter Tryz.func41,Tryz.ntmps41
 go_wp2_with fail
 refine H.out.mono ?_
 rintro e w1 ⟨rfl,hb⟩
 have HM1:=Lib.hid (HM.out.kept hb)
 obtain ⟨A1,c1,cap1,-,-,hrw1,-,hlg,-⟩:=HM1.out.cells
 have hlt:=hrw1.lt
 clear hrw1 A1 c1 cap1
 have HB0:=Lib.hid hb
 clear hb
 go_wp2_with fail
 go_loopw [19] (fun i wr=>∃ j:Nat,j≤4∧i = .int .i64 j∧Bk wr w1.heap.size 170 (bv (Mm.bytesOf v j ++ List.replicate (4 - j) 0)).toArray∧Below w1.heap.size w1 wr) (fun i _=>4 - (intOf i).toNat)
 case atStart=>exact ⟨0,by omega,rfl,Bk.fresh w1 _ _,(Below.refl w1.heap.size w1).alloc (Nat.le_refl _) _⟩
 case round=>
  obtain ⟨j,hj,rfl,hbk,hbr⟩:=hrel
  by_cases hlt:j < 4
  ·have hj4:j = 0 ∨ j = 1 ∨ j = 2 ∨ j = 3:=by omega
   have hf:=hbk.free j
   have HBK:=Lib.hid hbk
   have HBR:=Lib.hid hbr
   have hc:∃ u,wr.cell? ⟨w1.heap.size,j,none⟩ = some u:=by
    rw [hbk.cell]
    have:j < (bv (Mm.bytesOf v j ++ List.replicate (4 - j) 0)).toArray.size:=by simp [bv_length,Mm.bytesOf_length];omega
    exact ⟨_,Array.getElem?_eq_getElem this⟩
   obtain ⟨u,hcu⟩:=hc
   clear hbk hbr
   rcases hj4 with rfl | rfl | rfl | rfl
   ·go_wp2
    go_roundw
    case rel=>
     refine ⟨1,by omega,by go_num,?_,HBR.out.setCell (Nat.le_refl _) _⟩
     have e:=HBK.out.set 0 (.int .u8 ((v:Int) % 256))
     have hv1:(v:Int) % 256 = ((UInt8.ofNat (v)).toNat:Int):=by rw [UInt8.toNat_ofNat'];omega
     rw [hv1] at e ⊢
     simpa [bv,Mm.bytesOf,List.replicate,Nat.div_div_eq_div_mul] using e
    case measure=>simp [intOf]
   ·go_wp2
    go_roundw
    case rel=>
     refine ⟨2,by omega,by go_num,?_,HBR.out.setCell (Nat.le_refl _) _⟩
     have e:=HBK.out.set 1 (.int .u8 ((v:Int) / 256 % 256))
     have hv1:(v:Int) / 256 % 256 = ((UInt8.ofNat (v / 256)).toNat:Int):=by rw [UInt8.toNat_ofNat'];omega
     rw [hv1] at e ⊢
     simpa [bv,Mm.bytesOf,List.replicate,Nat.div_div_eq_div_mul] using e
    case measure=>simp [intOf]
   ·go_wp2
    go_roundw
    case rel=>
     refine ⟨3,by omega,by go_num,?_,HBR.out.setCell (Nat.le_refl _) _⟩
     have e:=HBK.out.set 2 (.int .u8 ((v:Int) / 65536 % 256))
     have hv1:(v:Int) / 65536 % 256 = ((UInt8.ofNat (v / 65536)).toNat:Int):=by rw [UInt8.toNat_ofNat'];omega
     rw [hv1] at e ⊢
     simpa [bv,Mm.bytesOf,List.replicate,Nat.div_div_eq_div_mul] using e
    case measure=>simp [intOf]
   ·go_wp2
    go_roundw
    case rel=>
     refine ⟨4,by omega,by go_num,?_,HBR.out.setCell (Nat.le_refl _) _⟩
     have e:=HBK.out.set 3 (.int .u8 ((v:Int) / 16777216))
     have hv1:(v:Int) / 16777216 = ((UInt8.ofNat (v / 16777216)).toNat:Int):=by rw [UInt8.toNat_ofNat'];omega
     rw [hv1] at e ⊢
     simpa [bv,Mm.bytesOf,List.replicate,Nat.div_div_eq_div_mul] using e
    case measure=>simp [intOf]
  ·obtain rfl:j = 4:=by omega
   have HBR:=Lib.hid hbr
   have hL:(Mm.bytesOf v 4 ++ List.replicate (4 - 4) 0).length = 4:=by simp [Mm.bytesOf_length]
   have HW:=Lib.hid (show RdB wr (.slice (some ⟨w1.heap.size,0,none⟩) k 4) (Mm.bytesOf v k) from by
    refine .inr ⟨w1.heap.size,0,4,by rw [Mm.bytesOf_length],hbk.lt,by rw [Mm.bytesOf_length];omega,by unfold maxLen;omega,fun i hi=>?_⟩
    rw [Mm.bytesOf_length] at hi
    have hi4:i < 4:=by omega
    rw [hbk.cell]
    have e:=Mm.bytesOf_getD v k i hi
    have e4:=Mm.bytesOf_getD v 4 i hi4
    rw [e,← e4]
    simp [bv,List.getD,Mm.bytesOf_length,hi4,List.getElem?_append])
   have HM2:=Lib.hid (HM1.out.kept hbr)
   have hlr:=hbr.size
   obtain ⟨A,c,cap,c0,c1,hrw,hcm,hlg2,hne⟩:=HM2.out.cells
   have hcap:=hrw.le
   have hna:¬ cap = a:=by omega
   clear c1 hbk hbr hL
   have HD:=Lib.hid hrw
   clear hrw
   have HF:=Lib.hid (show a+min (Mm.bytesOf v k).length (b.length - a)≤b.length by rw [Mm.bytesOf_length];omega)
   have HP:=Lib.hid (show lay b a ((Mm.bytesOf v k).take (b.length - a)) = Mm.put b a (Mm.bytesOf v k) by
    rw [List.take_of_length_le (by rw [Mm.bytesOf_length];omega)];rfl)
   have HPL:=Lib.hid (show (Mm.put b a (Mm.bytesOf v k)).length = b.length from Mm.put_length _ _ _ (by rw [Mm.bytesOf_length];exact hak))
   generalize hB':Mm.put b a (Mm.bytesOf v k) = B' at *
   generalize hV':Mm.bytesOf v k = V at *
   have HB':=Lib.hid hB'
   have HV':=Lib.hid hV'
   clear hB' hV'
   have HK:=Lib.hid (show ∀ W' V',But gb wr W'→wr.cell? ⟨gm,0,none⟩ = some V'→W'.cell? ⟨gm,0,none⟩ = some V' from fun W' V' hb' hc=>by
    exact (World.cell?_of_block (a:=⟨gm,0,none⟩) (hb'.block hlg2 hne)).trans hc)
   generalize hbl:b.length = len at *
   have HBL:=Lib.hid hbl
   clear hbl
   go_wp2_with fail
   go_region_held3 (fun W'=>W'.cell? ⟨gm,0,none⟩ = some (.slice (some ⟨gb,0,none⟩) len cap)) (first | with_reducible exact HK.out _ _ hbut2 c0 | go_keep)
    ((refine step_copyB (by rfl) (.tmp 35) (.tmp 37) 26 26 (by rfl) mbt gb a (len - a) (cap - a) cap (by rfl) _ (by rfl) b V 5 HD.out HW.out (by have:=HF.out;have:=HBL.out;omega) ?_;intro w2 hg2 hbut2';have hbut2:But gb wr w2:=But.undrew hbut2'))
   rw [HP.out] at hg2
   go_wp2
   go_ret
   have hB':=HB'.out
   have hV':=HV'.out
   rw [← hV'] at hB'
   refine ⟨rfl,?_,?_⟩
   ·rw [hB']
    exact HM2.out.wrote hbut2 (by rw [HPL.out,HBL.out]) (fun cap' hc=>by rw [Rw.uniq hc HD.out];exact hg2)
   ·exact (But.of_below (HB0.out.trans (HBR.out.mono HB0.out.size))).trans hbut2
theorem mrt:RowTy Tryz.prog 84 234 2 8:=
 ⟨Tryz.underlying84,by
  have h:(Tryz.prog.info? 234).map (fun i=>(i.zero,i.size,i.bytes)) = some (some (.agg #[.int .u32 0,.int .u32 0]),2,8):=by kernel_rfl
  obtain ⟨i,h1,h2,h3,h4⟩:=info_parts h
  exact ⟨i,_,h1,h2,h3,h4,rfl⟩⟩
theorem mq29 (w:World) (a:Option Addr) (n c:Nat):(binOp .eql 84 (.slice a n c) (.slice none 0 0)).run Tryz.prog w = .ok (.bool a.isNone) w:=Lib.run_eql_slice_nil w _ _ a n c 0 0 Tryz.underlying84
theorem cloneB (w:World) (a:Addr) (n c:Nat) (l:List UInt8) (h:RdB w (.slice (some a) n c) l) (hl:l.length≤140737488355328) :
  Calls Tryz.prog 81 #[.slice (some a) n c] w fun e w'=>∃ v',e = .returned v'∧OwnB 5 w.heap.size w' v' l∧Below w.heap.size w w':=by
 have hq:=mq34
 go_enter Tryz.func81,Tryz.ntmps81
 go_wp2_with (at_builtin;refine wpList_appendB rfl _ _ _ _ rfl mbt w.heap.size _ rfl [] (OwnB.built w 5 #[] [] rfl (Nat.zero_le _) (Nat.le_refl _)) _ rfl l (src_of_rd mbt (h.below ((Below.refl w.heap.size w).alloc (Nat.le_refl _) _))) (by simpa using hl) (by simp) ?_;intro v3 w3 ho3 hb3 _)
 go_ret
 exact ⟨v3,rfl,by simpa using ho3,((Below.refl w.heap.size w).alloc (Nat.le_refl _) _).trans hb3⟩
theorem cloneH (w:World) (v:Value) (n:Nat) (xs:List Value) (h:Rd w 2 v n xs) (hn:n≤16) (h1:∀ u ∈ xs,u.oneCell' = true) :
  Calls Tryz.prog 129 #[v] w fun e w'=>∃ v',e = .returned v'∧Rd w' 2 v' n xs∧(∀ g,g < w.heap.size→Off v' g)∧Below w.heap.size w w':=by
 have hq:=mq29
 obtain ⟨A,c,rfl⟩:=h.form
 cases A with
 | none=>
  have h0:n = 0:=by
   obtain ⟨_,A,c,e,_,_,h4⟩:=h
   rcases Nat.eq_zero_or_pos n with h0 | h0
   ·exact h0
   ·obtain ⟨g,off,hA,_⟩:=h4 h0
    injection e with e;subst e;cases hA
  obtain ⟨hl,_⟩:=h
  subst h0
  obtain rfl:xs = []:=List.eq_nil_of_length_eq_zero (by simpa using hl)
  go_enter Tryz.func129,Tryz.ntmps129
  go_wp2
  go_ret
  exact ⟨_,rfl,Rd.nil _ _,fun g _ k off n c e=>by simp at e,Below.refl _ _⟩
 | some a=>
  have hs:=Lib.hid (fun W hb=>Rd.src mrt (Rd.kept h (w':=W) hb) h1)
  have hb1:=Lib.hid ((Below.refl w.heap.size w).alloc (Nat.le_refl _) (.cells #[] 234))
  clear h h1
  go_enter Tryz.func129,Tryz.ntmps129
  go_wp2_with (at_builtin;refine wpList_append_new rfl _ _ _ _ rfl mrt (by decide) _ rfl _ rfl n xs (hs.out _ hb1.out) (by unfold maxLen;omega) (by omega) ?_;intro v3 w3 hr3 hb3 ho3 h03)
  go_ret
  refine ⟨v3,rfl,hr3,fun g hg=>?_,hb1.out.trans (hb3.mono (by simp))⟩
  intro k off n' c' e hn'
  by_cases h0:0 < n
  ·have:=ho3 h0
   rcases this.2 with ⟨_,hn0⟩ | ⟨g',cap,cur,e',hge,_⟩
   ·omega
   ·rw [e'] at e
    simp at e
    simp at hge
    omega
  ·have:=(h03 (by omega)).1
   rw [this] at e
   simp at e
   omega
theorem size_own (w:World) (gm gb:Nat) (b:List UInt8) (hs:List (Nat × Nat)) (h:OwnM w gm gb b hs) :
  Calls Tryz.prog 70 #[.pointer (some ⟨gm,0,none⟩)] w fun e w'=>e = .returned (.int .i64 b.length)∧w = w':=by
 obtain ⟨A,c,cap,c0,c1,-⟩:=h.cells
 have hN:=Lib.hid (none_own w gm gb _ _ c0)
 clear c1 h
 generalize b.length = len at *
 go_enter Tryz.func70,Tryz.ntmps70
 go_wp2_with (go_at_call 79;refine hN.out.mono ?_;rintro e w' ⟨rfl,rfl⟩)
 go_ret
 exact ⟨rfl,rfl⟩
def Mm.putE (len a n:Nat):Int:=if a+n≤len then 0 else 30
def Mm.putB (b:List UInt8) (a:Nat) (l:List UInt8):List UInt8:=if a+l.length≤b.length then Mm.put b a l else b
theorem Mm.thereB_nat (len a n:Nat):Mm.thereB len a n = decide (a+n≤len):=by
 unfold Mm.thereB;rw [Bool.eq_iff_iff];simp;omega
set_option maxRecDepth 20000 in
theorem put_own (w:World) (gm gb:Nat) (b:List UInt8) (hs:List (Nat × Nat)) (a:Nat) (v:Value) (l:List UInt8) (ha:a < 4294967296) (h:OwnM w gm gb b hs) (hv:RdB w v l) (hvm:l.length≤maxLen) :
  Calls Tryz.prog 69 #[.pointer (some ⟨gm,0,none⟩),.int .u32 a,v] w fun e w'=>e = .returned (.int .i64 (Mm.putE b.length a l.length))∧OwnM w' gm gb (Mm.putB b a l) hs∧But gb w w':=by
 obtain ⟨A,c,cap,c0,c1,hrw,hcm,hgm,hne⟩:=h.cells
 have hcap:=hrw.le
 have HRW:=Lib.hid hrw
 have hhi:=h.hi
 have hN:=Lib.hid (none_own w gm gb _ _ c0)
 have hT:=there_own w gm gb _ _ a l.length h.hi ha c0
 rw [Mm.thereB_nat] at hT
 unfold maxLen at hvm
 obtain ⟨Al,cl,rfl⟩:=hv.length
 have HV:=Lib.hid hv
 have HM:=Lib.hid h
 clear c1 h hv hrw
 by_cases hin:a+l.length≤b.length
 ·have e1:Mm.putE b.length a l.length = 0:=by unfold Mm.putE;rw [if_pos hin]
  have e2:Mm.putB b a l = Mm.put b a l:=by unfold Mm.putB;rw [if_pos hin]
  rw [e1,e2]
  rw [show decide (a+l.length≤b.length) = true by simpa using hin] at hT
  have HT:=Lib.hid hT
  have hab:(a:Int)≤b.length:=by omega
  have hbi:(b.length:Int)≤1048576:=by omega
  clear hT e1 e2
  have HPL:=Lib.hid (show (Mm.put b a l).length = b.length from Mm.put_length _ _ _ hin)
  by_cases hl0:cap = a
  ·have hl:l = []:=List.eq_nil_of_length_eq_zero (by omega)
   have hba:b.length = a:=by omega
   subst hl
   have HP:=Lib.hid (show Mm.put b a [] = b from Mm.put_nil b a)
   have hcn:=fun W=>run_copy_none (P:=Tryz.prog) W 26 26 3 5 (some ⟨gb,0,none⟩) Al 0 0 0 cl mbt.slice (by kernel_rfl) rfl
   simp only [List.length_nil] at HV HT
   generalize b.length = len at *
   subst hl0 hba
   go_enter Tryz.func69,Tryz.ntmps69
   go_wp2_with (first | (go_at_call 79;refine hN.out.mono ?_;rintro e w' ⟨rfl,rfl⟩) | (go_at_call 80;refine HT.out.mono ?_;rintro e w' ⟨rfl,rfl⟩))
   go_ret
   exact ⟨rfl,by rw [HP.out];exact HM.out,But.of_below (Below.refl _ _)⟩
  ·have HF:=Lib.hid (show a+min l.length (b.length - a)≤b.length by omega)
   have HP:=Lib.hid (show lay b a (l.take (b.length - a)) = Mm.put b a l by
    rw [List.take_of_length_le (by omega)];rfl)
   generalize hbl:b.length = len at *
   have HBL:=Lib.hid hbl
   clear hbl
   generalize hll:l.length = ll at *
   have HLL:=Lib.hid hll
   clear hll
   go_enter Tryz.func69,Tryz.ntmps69
   go_wp2_with (first | (go_at_call 79;refine hN.out.mono ?_;rintro e w' ⟨rfl,rfl⟩) | (go_at_call 80;refine HT.out.mono ?_;rintro e w' ⟨rfl,rfl⟩) | (refine wpList_copyB rfl (.tmp 22) (.tmp 23) 26 26 rfl mbt gb a (len - a) (cap - a) cap rfl _ rfl b l 5 HRW.out HV.out (by have h1:=HF.out;have h2:=HBL.out;have h3:=HLL.out;omega) ?_;intro w2 hg2 hbut2))
   go_ret
   rw [HP.out] at hg2
   exact ⟨rfl,HM.out.wrote hbut2 (by rw [HPL.out,HBL.out]) (fun cap' hc=>by rw [Rw.uniq hc HRW.out];exact hg2),hbut2⟩
 ·have e1:Mm.putE b.length a l.length = 30:=by unfold Mm.putE;rw [if_neg hin]
  have e2:Mm.putB b a l = b:=by unfold Mm.putB;rw [if_neg hin]
  rw [e1,e2]
  rw [show decide (a+l.length≤b.length) = false by simpa using hin] at hT
  have HT:=Lib.hid hT
  clear hT e1 e2
  generalize b.length = len at *
  generalize l.length = ll at *
  go_enter Tryz.func69,Tryz.ntmps69
  go_wp2_with (first | (go_at_call 79;refine hN.out.mono ?_;rintro e w' ⟨rfl,rfl⟩) | (go_at_call 80;refine HT.out.mono ?_;rintro e w' ⟨rfl,rfl⟩))
  go_ret
  exact ⟨rfl,HM.out,But.of_below (Below.refl _ _)⟩
def Mm.bytesL (b:List UInt8) (a:Nat) (n:Int):List UInt8:=if 0≤n∧(a:Int)+n≤b.length then Mm.get b a n.toNat else []
theorem bytes_own (w:World) (gm gb:Nat) (b:List UInt8) (hs:List (Nat × Nat)) (a:Nat) (n:Int) (ha:a < 4294967296) (h:OwnM w gm gb b hs) :
  Calls Tryz.prog 37 #[.pointer (some ⟨gm,0,none⟩),.int .u32 a,.int .i64 n] w fun e w'=>∃ v',e = .returned v'∧OwnB 5 w.heap.size w' v' (Mm.bytesL b a n)∧Below w.heap.size w w':=by
 obtain ⟨A,c,cap,c0,c1,hrw,hcm,hgm,hne⟩:=h.cells
 have hcap:=hrw.le
 have HRW:=Lib.hid hrw
 have hhi:=h.hi
 have hN:=Lib.hid (none_own w gm gb _ _ c0)
 have hT:=there_own w gm gb _ _ a n h.hi ha c0
 have HM:=Lib.hid h
 clear c1 h hrw
 by_cases hin:0≤n∧(a:Int)+n≤b.length
 ·obtain ⟨h0,h1⟩:=hin
  obtain ⟨k,rfl⟩:=Int.eq_ofNat_of_zero_le h0
  have e2:Mm.bytesL b a k = Mm.get b a k:=by unfold Mm.bytesL;rw [if_pos ⟨h0,h1⟩,Int.toNat_natCast]
  rw [e2]
  rw [Mm.thereB_nat,show decide (a+k≤b.length) = true by simp;omega] at hT
  have HT:=Lib.hid hT
  have hbi:(b.length:Int)≤1048576:=by omega
  have hai:(a:Int)≤b.length:=by omega
  have hak:(a:Int)≤(a:Int)+k:=by omega
  clear hT e2
  have hlen:(Mm.get b a k).length = k:=Mm.get_length b a k (by omega)
  by_cases hl0:cap = a
  ·have hk:k = 0:=by omega
   subst hk
   have HG:=Lib.hid (show Mm.get b a 0 = [] by simp [Mm.get])
   have HC:=Lib.hid (fun W=>cloneB W ⟨gb,0,none⟩ 0 0 [] (.inl ⟨_,_,rfl,rfl⟩) (by simp))
   have hba:b.length = a:=by omega
   generalize b.length = len at *
   clear hlen
   subst hl0 hba
   go_enter Tryz.func37,Tryz.ntmps37
   go_wp2_with (first | (go_at_call 79;refine hN.out.mono ?_;rintro e w' ⟨rfl,rfl⟩) | (go_at_call 80;refine HT.out.mono ?_;rintro e w' ⟨rfl,rfl⟩) | (go_at_call 81;refine (HC.out _).mono ?_;rintro e w' ⟨v',rfl,ho,hb⟩))
   go_ret
   exact ⟨v',rfl,by rw [HG.out];exact ho,hb⟩
  ·have HR:=Lib.hid (show RdB w (.slice (some ⟨gb,a,none⟩) k (cap - a)) (Mm.get b a k) from HRW.out.part a k (cap - a) (by omega) (by omega) (by omega))
   have HC:=Lib.hid (cloneB w ⟨gb,a,none⟩ k (cap - a) (Mm.get b a k) HR.out (by rw [hlen];omega))
   generalize b.length = len at *
   clear hlen
   go_enter Tryz.func37,Tryz.ntmps37
   go_wp2_with (first | (go_at_call 79;refine hN.out.mono ?_;rintro e w' ⟨rfl,rfl⟩) | (go_at_call 80;refine HT.out.mono ?_;rintro e w' ⟨rfl,rfl⟩) | (go_at_call 81;refine HC.out.mono ?_;rintro e w' ⟨v',rfl,ho,hb⟩))
   go_ret
   exact ⟨v',rfl,ho,hb⟩
 ·have e2:Mm.bytesL b a n = []:=by unfold Mm.bytesL;rw [if_neg hin]
  rw [e2]
  rw [show Mm.thereB b.length a n = false by unfold Mm.thereB;simp;omega] at hT
  have HT:=Lib.hid hT
  clear hT e2
  generalize b.length = len at *
  go_enter Tryz.func37,Tryz.ntmps37
  go_wp2_with (first | (go_at_call 79;refine hN.out.mono ?_;rintro e w' ⟨rfl,rfl⟩) | (go_at_call 80;refine HT.out.mono ?_;rintro e w' ⟨rfl,rfl⟩))
  go_ret
  exact ⟨_,rfl,OwnB.nil _ _ _,Below.refl _ _⟩
theorem OwnM.make {w:World} {g cap:Nat} {b:List UInt8} {hs:List (Nat × Nat)} {hv:Value} (B:Nat) (hrw:Rw w g 5 cap b) (hcm:cap≤maxLen) (hrd:Rd w 2 hv hs.length (Mm.hc hs)) (hoff:Off hv g)
  (lo:4≤b.length) (hi:b.length≤1048576) (few:hs.length≤16) (small:∀ j,j < hs.length→(hs.getD j (0,0)).1 < 4294967296∧(hs.getD j (0,0)).2 < 4294967296) :
  OwnM (w.alloc (.cells #[.slice (some ⟨g,0,none⟩) b.length cap,hv] 86)) w.heap.size g b hs:=
 have hb:=(Below.refl w.heap.size w).alloc (Nat.le_refl _) (.cells #[.slice (some ⟨g,0,none⟩) b.length cap,hv] 86)
 ⟨⟨hv,cap,Bk.fresh _ _ _,hrw.kept hb,hcm,hrd.kept hb,hoff⟩,lo,hi,few,small⟩
def Mm.Made (b:List UInt8) (hs:List (Nat × Nat)) (w:World) (v:Value) (w':World):Prop:=∃ gm gb,v = .pointer (some ⟨gm,0,none⟩)∧OwnM w' gm gb b hs∧w.heap.size≤gm∧w.heap.size≤gb∧Below w.heap.size w w' ∧
 (∀ g,g < w.heap.size→OffM w' 86 gm g)
theorem Rd.off {w:World} {size n g:Nat} {v:Value} {xs:List Value} (h:Rd w size v n xs) (hg:w.heap.size≤g):Off v g:=by
 obtain ⟨_,A,c,rfl,_,_,h4⟩:=h
 intro k off n' c' e hn e2
 injection e with e1 e3
 subst e3
 obtain ⟨g',off',hA,hlt,_⟩:=h4 hn
 rw [hA] at e1
 injection e1 with e1
 injection e1 with e1
 omega
theorem Mm.made {w w':World} {g cap:Nat} {b:List UInt8} {hs:List (Nat × Nat)} {hv:Value} (hrw:Rw w' g 5 cap b) (hcm:cap≤maxLen) (hrd:Rd w' 2 hv hs.length (Mm.hc hs)) (hoff:Off hv g)
  (lo:4≤b.length) (hi:b.length≤1048576) (few:hs.length≤16) (small:∀ j,j < hs.length→(hs.getD j (0,0)).1 < 4294967296∧(hs.getD j (0,0)).2 < 4294967296)
  (hg:w.heap.size≤g) (ho:∀ g',g' < w.heap.size→Off hv g') (hb:Below w.heap.size w w') :
  Mm.Made b hs w (.pointer (some ⟨w'.heap.size,0,none⟩)) (w'.alloc (.cells #[.slice (some ⟨g,0,none⟩) b.length cap,hv] 86)):=by
 refine ⟨w'.heap.size,g,rfl,OwnM.make 0 hrw hcm hrd hoff lo hi few small,hb.size,hg,hb.alloc hb.size _,fun g' hg' x' hv' hbk=>?_⟩
 have:=(hbk.uniq (Bk.fresh w' _ _)).2
 simp at this
 rw [this.2]
 exact ho g' hg'
def Mm.bad (h:Nat × Nat):Bool:=decide (h.2 < h.1)
theorem bad_own (w:World) (p q:Nat) (hp:p < 4294967296) (hq:q < 4294967296) :
  Calls Tryz.prog 128 #[.agg #[.int .u32 p,.int .u32 q]] w fun e w'=>e = .returned (.bool (Mm.bad (p,q)))∧Below w.heap.size w w':=by
 go_enter Tryz.func128,Tryz.ntmps128
 go_wp2
 go_ret
 exact ⟨mret_bool (by unfold Mm.bad;rw [Bool.eq_iff_iff]),(Below.refl _ _).alloc (Nat.le_refl _) _⟩
def Mm.SomeIdx (b:Bool) (w:World) (e:Ending) (w':World):Prop:=∃ r:Int,e = .returned (.int .i64 r)∧-1≤r∧r≤100∧decide (0≤r) = b∧Below w.heap.size w w'
theorem Rd.pair {w:World} {A:Option Addr} {c:Nat} {hs:List (Nat × Nat)} (h:Rd w 2 (.slice A hs.length c) hs.length (Mm.hc hs)) {j:Nat} (hj:j < hs.length) :
  ∃ g off,A = some ⟨g,off,none⟩∧w.cell? ⟨g,off+j * 2,none⟩ = some (.int .u32 (hs.getD j (0,0)).1)∧w.cell? ⟨g,off+j * 2+1,none⟩ = some (.int .u32 (hs.getD j (0,0)).2):=by
 obtain ⟨_,A',c',e,_,_,h4⟩:=h
 obtain ⟨g,off,rfl,hg,hc⟩:=h4 (by omega)
 injection e with e
 exact ⟨g,off,e,hc _ _ (Mm.hc_at hs j hj).1,by have:=hc _ _ (Mm.hc_at hs j hj).2;rwa [← Nat.add_assoc] at this⟩
theorem index_own (w:World) (A:Option Addr) (c:Nat) (hs:List (Nat × Nat)) (h:Rd w 2 (.slice A hs.length c) hs.length (Mm.hc hs)) (few:hs.length≤16)
  (small:∀ j,j < hs.length→(hs.getD j (0,0)).1 < 4294967296∧(hs.getD j (0,0)).2 < 4294967296) :
  Calls Tryz.prog 192 #[.slice A hs.length c,.func (.func 128) #[] #[]] w (Mm.SomeIdx (hs.any Mm.bad) w):=by
 have HH:=Lib.hid (fun W (hb:Below w.heap.size w W) (j:Nat) (hj:j < hs.length)=>Rd.pair (h.kept hb) hj)
 have HS:=Lib.hid small
 have few':(hs.length:Int)≤16:=by omega
 clear h small
 go_enter Tryz.func192,Tryz.ntmps192
 go_wp2_with fail
 go_loopw [8] (fun i wr=>∃ j:Nat,j≤hs.length∧i = .int .i64 j∧(∀ t,t < j→Mm.bad (hs.getD t (0,0)) = false)∧Below w.heap.size w wr) (fun i _=>hs.length - (intOf i).toNat)
 case atStart=>exact ⟨0,Nat.zero_le _,rfl,fun t ht=>absurd ht (by omega),Below.refl _ _⟩
 case round=>
  obtain ⟨j,hj,rfl,hno,hbr⟩:=hrel
  by_cases hlt:j < hs.length
  ·obtain ⟨g,off,hA,c0,c1⟩:=HH.out wr hbr j hlt
   obtain ⟨s1,s2⟩:=HS.out j hlt
   have HB:=Lib.hid hbr
   have HO:=Lib.hid hno
   subst hA
   clear hbr hno
   have HP:=Lib.hid (show hs.getD j (0,0) ∈ hs by rw [List.getD_eq_getElem?_getD,List.getElem?_eq_getElem hlt];simp)
   generalize hh:hs.getD j (0,0) = h at *
   have hh':=Lib.hid hh
   clear hh
   obtain ⟨p,q⟩:=h
   dsimp only at c0 c1 s1 s2
   have hc:=Lib.hid (fun W=>bad_own W p q s1 s2)
   go_wp2_with fail
   refine (hc.out _).mono ?_
   rintro e w2 ⟨rfl,hb2⟩
   have HB2:=Lib.hid (HB.out.trans (hb2.mono HB.out.size))
   clear hb2
   cases hb:Mm.bad (p,q)
   ·have hb':=Lib.hid hb
    clear hb
    go_wp2_with fail
    go_roundw
    case rel=>exact ⟨j+1,by omega,by go_num,fun t ht=>by
     by_cases e:t = j
     ·subst e;rw [hh'.out,hb'.out]
     ·exact HO.out t (by omega),HB2.out⟩
    case measure=>simp [intOf];omega
   ·have hb':=Lib.hid hb
    clear hb
    go_wp2_with fail
    go_ret
    refine ⟨j,rfl,by omega,by omega,?_,HB2.out⟩
    rw [List.any_eq_true.2 ⟨(p,q),HP.out,hb'.out⟩]
    simp
  ·obtain rfl:j = hs.length:=by omega
   have HN:=Lib.hid (show hs.any Mm.bad = false by
    rw [List.any_eq_false]
    intro x hx
    obtain ⟨i,hi,rfl⟩:=List.mem_iff_getElem.1 hx
    simpa [List.getD,List.getElem?_eq_getElem hi] using hno i hi)
   have HB:=Lib.hid hbr
   clear hbr hno
   go_wp2_with fail
   go_ret
   exact ⟨-1,rfl,by omega,by omega,by rw [HN.out];rfl,HB.out⟩
theorem contains_own (w:World) (A:Option Addr) (c:Nat) (hs:List (Nat × Nat)) (h:Rd w 2 (.slice A hs.length c) hs.length (Mm.hc hs)) (few:hs.length≤16)
  (small:∀ j,j < hs.length→(hs.getD j (0,0)).1 < 4294967296∧(hs.getD j (0,0)).2 < 4294967296) :
  Calls Tryz.prog 127 #[.slice A hs.length c,.func (.func 128) #[] #[]] w fun e w'=>e = .returned (.bool (hs.any Mm.bad))∧Below w.heap.size w w':=by
 have H:=Lib.hid (index_own w A c hs h few small)
 generalize hs.any Mm.bad = B at *
 clear h small
 go_enter Tryz.func127,Tryz.ntmps127
 go_wp2_with fail
 refine H.out.mono ?_
 rintro e w1 ⟨r,rfl,h1,h2,h3,hb⟩
 have H3:=Lib.hid h3
 clear h3
 go_wp2_with fail
 go_ret
 exact ⟨mret_bool H3.out,hb⟩
def Mm.newOk (size:Int) (hs:List (Nat × Nat)):Bool:=decide (4≤size) && (decide (size≤1048576) && (decide (size % 4 = 0) && (decide (hs.length≤16) && !hs.any Mm.bad)))
set_option maxRecDepth 20000 in
theorem zeros_make (n:Nat) (hn:n≤1048576) (W:World):(Instr.makeSlice 26 (.int .i64 (n:Int)) (.int .i64 (n:Int))).run Tryz.prog W = .ok (.slice (some ⟨W.heap.size,0,none⟩) n n) (W.alloc (.cells (bv (List.replicate n 0)).toArray 5)):=by
 obtain ⟨i,hi,hz,hs1,hb1⟩:=mbt.info
 have hb:(i.bytes:Int) * (n:Int)≤281474976710656:=by rw [hb1];omega
 have hr:=run_make (P:=Tryz.prog) W 26 5 i _ mbt.slice hi hz .i64 .i64 n n (by omega) (by omega) hb (by omega)
 rw [hr]
 simp only [Int.toNat_natCast]
 congr 3
 apply Array.ext'
 apply List.ext_getElem
 ·simp [madeCells,hs1,bv,Value.cells]
 ·intro j h1 h2
  simp [madeCells,bv,Value.cells,Nat.mod_one]
set_option maxRecDepth 20000 in
theorem new_ok (w:World) (n:Nat) (A:Option Addr) (c:Nat) (hs:List (Nat × Nat)) (h:Rd w 2 (.slice A hs.length c) hs.length (Mm.hc hs))
  (small:∀ j,j < hs.length→(hs.getD j (0,0)).1 < 4294967296∧(hs.getD j (0,0)).2 < 4294967296) (hyes:Mm.newOk n hs = true) :
  Calls Tryz.prog 68 #[.int .i64 n,.slice A hs.length c] w fun e w'=>∃ v,e = .returned (.tuple #[v,.int .i64 0])∧Mm.Made (List.replicate n 0) hs w v w':=by
 simp only [Mm.newOk,Bool.and_eq_true,decide_eq_true_eq,Bool.not_eq_true'] at hyes
 obtain ⟨h1,h2,h3,h4,h5⟩:=hyes
 have g3:((n:Int) % 4 != 0) = false:=by simpa using h3
 have H:=contains_own w A c hs h h4 small
 rw [h5] at H
 have HH:=Lib.hid H
 have h4i:(hs.length:Int)≤16:=by omega
 have HC:=Lib.hid (show ∀ W,Below w.heap.size w W→Calls Tryz.prog 129 #[.slice A hs.length c] W fun e w'=>∃ A' c',e = .returned (.slice A' hs.length c')∧Rd w' 2 (.slice A' hs.length c') hs.length (Mm.hc hs)∧(∀ g,g < W.heap.size→Off (.slice A' hs.length c') g)∧Below W.heap.size W w'∧Below w.heap.size w w' from fun W hb=>
  (cloneH W _ hs.length (Mm.hc hs) (h.kept hb) h4 (Mm.hc_one hs)).mono fun e w' ⟨v',k1,k2,k3,k4⟩=>by
   obtain ⟨A',c',rfl⟩:=k2.form
   exact ⟨A',c',k1,k2,k3,k4,hb.trans (k4.mono hb.size)⟩)
 have hmk:=zeros_make n (by omega)
 have HZ:=Lib.hid (show (List.replicate n (0:UInt8)).length = n by simp)
 have HRW:=Lib.hid (fun W=>Rw.of (Bk.fresh W 5 (bv (List.replicate n (0:UInt8))).toArray))
 have HS:=Lib.hid small
 have HL:=Lib.hid h4
 clear h small H h5 h3
 generalize hz:List.replicate n (0:UInt8) = Z at *
 have HZZ:=Lib.hid hz
 clear hz
 generalize hhl:hs.length = hl at *
 have HHL:=Lib.hid hhl
 clear hhl
 generalize hzz:(bv Z).toArray = ZZ at *
 have HZZZ:=Lib.hid hzz
 clear hzz
 go_enter Tryz.func68,Tryz.ntmps68
 go_wp2_with (go_at_call 127;refine HH.out.mono ?_;rintro e w1 ⟨rfl,hb1⟩)
 go_region_with (first | (go_at_call 129;refine (HC.out _ (by first | exact hb1 | exact hb1.drew | exact hb1.alloc hb1.size _ | exact hb1.drew.alloc hb1.size _ | exact (hb1.alloc hb1.size _).drew)).mono ?_;rintro e wy ⟨A',c',rfl,hr3,ho3,hb4,hb4'⟩))
 all_goals
  go_wp2
  go_ret2
 all_goals
  have hzl:Z.length = n:=HZ.out
  have hhl:=HHL.out
  have hz:=HZZ.out
  have hzz:=HZZZ.out
  have hlo:4≤Z.length:=by omega
  have hhi:Z.length≤1048576:=by omega
  have hfew:hs.length≤16:=by rw [hhl];exact HL.out
  rw [← hhl] at hr3 ho3
  have hrw:=fun W=>HRW.out W
  simp only [hzz,hz,hzl] at hrw
  have hcm:n≤maxLen:=by unfold maxLen;omega
 ·refine ⟨_,rfl,?_⟩
  show Mm.Made Z hs w (.pointer (some ⟨wy.heap.size,0,none⟩)) (wy.alloc (.cells #[.slice (some ⟨w1.heap.size,0,none⟩) n n,.slice A' hl c'] 86))
  rw [← hhl]
  have:=Mm.made (w:=w) (w':=wy) (g:=w1.heap.size) (cap:=n) (b:=Z) (Rw.kept (w:=(w1.alloc (.cells ZZ 5)).drew) (hrw w1) hb4) hcm hr3 (ho3 _ (by simp)) hlo hhi hfew (fun j hj=>HS.out j (by omega)) hb1.size (fun g' hg'=>ho3 g' (by have:=hb1.size;simp;omega)) hb4'
  rw [hzl] at this
  exact this
 ·refine ⟨_,rfl,?_⟩
  have e:(wy.alloc (.cells ZZ 5)).heap.size = wy.heap.size+1:=by simp
  show Mm.Made Z hs w (.pointer (some ⟨wy.heap.size+1,0,none⟩)) ((wy.alloc (.cells ZZ 5)).alloc (.cells #[.slice (some ⟨wy.heap.size,0,none⟩) n n,.slice A' hl c'] 86))
  rw [← hhl,← e]
  have:=Mm.made (w:=w) (w':=wy.alloc (.cells ZZ 5)) (g:=wy.heap.size) (cap:=n) (b:=Z) (hrw wy) hcm (Rd.kept hr3 ((Below.refl _ _).alloc (Nat.le_refl _) _)) (Rd.off hr3 (Nat.le_refl _)) hlo hhi hfew (fun j hj=>HS.out j (by omega)) hb4'.size (fun g' hg'=>ho3 g' (by have:=hb1.size;simp;omega)) (hb4'.alloc hb4'.size _)
  rw [hzl] at this
  exact this
end Go.Proofs.YtpcpaoeajcjoiaaGreatDoor
