/- Texts joined, what is not reached left out. -/
import Derived.Test.YtpcpaoeajcjoiaaGreatDoorQDcRead
import Derived.Test.YtpcpaoeajcjoiaaGreatDoorDE
import Derived.Test.YtpcpaoeajcjoiaaGreatDoorQNmRefQ
set_option linter.unusedVariables false
set_option linter.unusedSimpArgs false
namespace Go.Proofs.YtpcpaoeajcjoiaaGreatDoor
open Go.RowKit Kit
theorem Dc.getD_take (l:List UInt8) (n k:Nat) (h:k < n):(l.take n).getD k 0 = l.getD k 0:=by
 simp only [List.getD,List.getElem?_take,if_pos h]
theorem Dc.nl_take (l:List UInt8):Nm.nl (l.take 48) = Nm.nl l:=by unfold Nm.nl;rw [Dc.getD_take l 48 13 (by decide)]
theorem Dc.flg_take (l:List UInt8):Nm.flg (l.take 48) = Nm.flg l:=by unfold Nm.flg;rw [Dc.getD_take l 48 12 (by decide)]
theorem Dc.wat_take (l:List UInt8) (k:Nat) (h:k+3 < 48):Nm.wat (l.take 48) k = Nm.wat l k:=by
 unfold Nm.wat;rw [Dc.getD_take l 48 k (by omega),Dc.getD_take l 48 (k+1) (by omega),Dc.getD_take l 48 (k+2) (by omega),Dc.getD_take l 48 (k+3) (by omega)]
theorem Dc.sub_take {α:Type} (l:List α) (o n N:Nat) (h:o+n≤N):((l.take N).drop o).take n = (l.drop o).take n:=by
 rw [List.drop_take,List.take_take,Nat.min_eq_left (by omega)]
theorem Dc.lengthN_le (n:Nat):Nm.lengthN n≤48:=by unfold Nm.lengthN;split <;> omega
theorem Dc.name_take (l:List UInt8) (h:Nm.nl l≤31):Nm.name (l.take 48) = Nm.name l:=by
 unfold Nm.name;rw [Dc.nl_take,Dc.sub_take _ _ _ _ (by omega)]
theorem Dc.goodB_take (l:List UInt8):Nm.goodB (l.take 48) = Nm.goodB l:=by
 have hL:=Dc.lengthN_le (Nm.nl l)
 unfold Nm.goodB
 rw [Dc.nl_take,Dc.flg_take,List.length_take]
 by_cases h:Nm.nl l≤31
 ·rw [Dc.name_take l h]
  have hp:Nm.pad (l.take 48) = Nm.pad l:=by
   unfold Nm.pad
   rw [Dc.nl_take,Dc.sub_take _ _ _ _ (by unfold Nm.lengthN at hL ⊢;split <;> omega)]
  rw [hp]
  have e1:decide (14≤min 48 l.length) = decide (14≤l.length):=decide_eq_decide.2 (by omega)
  have e2:decide (14+Nm.nl l≤min 48 l.length) = decide (14+Nm.nl l≤l.length):=decide_eq_decide.2 (by omega)
  have e3:decide (Nm.lengthN (Nm.nl l)≤min 48 l.length) = decide (Nm.lengthN (Nm.nl l)≤l.length):=decide_eq_decide.2 (by omega)
  rw [e1,e2,e3]
 ·have e:decide (Nm.nl l≤31) = false:=decide_eq_false h
  simp only [e,Bool.false_and,Bool.and_false]
theorem Dc.good_nl {l:List UInt8} (h:Nm.goodB l = true):Nm.nl l≤31:=by
 unfold Nm.goodB at h
 simp only [Bool.and_eq_true,decide_eq_true_eq] at h
 exact h.2.1
theorem Dc.hd_take (l:List UInt8):Dc.hd (l.take 48) = Dc.hd l:=by
 unfold Dc.hd
 rw [Dc.goodB_take]
 split
 ·rename_i h
  rw [Dc.name_take l (Dc.good_nl h),Dc.flg_take,Dc.wat_take l 0 (by decide),Dc.wat_take l 4 (by decide),Dc.wat_take l 8 (by decide)]
 ·rfl
theorem Dc.long_take (l:List UInt8):Dc.long (l.take 48) = Dc.long l:=by
 unfold Dc.long
 rw [Dc.goodB_take,Dc.nl_take]
theorem Dc.long_le (l:List UInt8):Dc.long l≤48:=by
 unfold Dc.long
 split
 ·exact Dc.lengthN_le _
 ·omega
theorem Dc.aft_small {x:Nat} (h:x≤2000000):(x+4) % 4294967296 = x+4∧(x+4+4294967292) % 4294967296 = x:=by omega
theorem Dc.wd_is (b:List UInt8) (x y z:Nat) (r:Bool):((Dc.wd b x).isSome && (decide ((Dc.wd b x).getD 0 = y) && r)) = (decide (x+4≤b.length) && (decide (Nm.wat b x = y) && r)):=by
 unfold Dc.wd
 by_cases h:x+4≤b.length
 ·rw [if_pos h,decide_eq_true h,Option.isSome_some,Option.getD_some]
 ·rw [if_neg h,decide_eq_false h,Option.isSome_none,Bool.false_and,Bool.false_and]
theorem Dc.okR_eq (b:List UInt8) (a k:Nat) (hb:b.length≤1000000) (ha:a < b.length) (L:List UInt8) (hL:L = b.drop a) (n:Nat) (hn:n = Dc.long L) :
  Dc.okR b a k = (Nm.goodB L && (decide (a % 4 = 0) && (decide (Im.bucket (Dc.hd L).name = k) && (decide ((Dc.hd L).xt = a+n+4) && (decide (a+n+4≤b.length) && (decide (Nm.wat b (a+n) = a) && decide (a+n+4+(Dc.hd L).size≤b.length))))))):=by
 have hl:=Dc.long_le L
 have hw:Dc.win b a = L.take 48:=by rw [hL];rfl
 have haf:Dc.aft b a = a+n+4:=by unfold Dc.aft;rw [hw,Dc.long_take,← hn];exact (Dc.aft_small (x:=a+n) (by omega)).1
 have hbk:Dc.back b a = Dc.wd b (a+n):=by unfold Dc.back;rw [haf,(Dc.aft_small (x:=a+n) (by omega)).2]
 unfold Dc.okR Dc.okH
 rw [hbk,haf,hw,Dc.goodB_take,Dc.hd_take,Dc.wd_is b (a+n) a 0,Bool.and_assoc]
def Dc.ins (l:List Dc.Wd) (k:Nat) (x:Dc.Wd):List Dc.Wd:=l.take k ++ [x] ++ l.drop k
theorem Dc.ins_perm (l:List Dc.Wd) (k:Nat) (x:Dc.Wd):(Dc.ins l k x).Perm (x :: l):=by
 unfold Dc.ins
 have:=@List.perm_middle _ x (l.take k) (l.drop k)
 rw [List.take_append_drop] at this
 simpa using this
theorem Dc.sorted_eq {l l':List Dc.Wd} (hp:l.Perm l') (h:l.Pairwise (fun x y=>x.at_ < y.at_)) (h':l'.Pairwise (fun x y=>x.at_ < y.at_)):l = l':=
 hp.eq_of_pairwise (fun _ _ _ _ h1 h2=>absurd (Nat.lt_trans h1 h2) (Nat.lt_irrefl _)) h h'
theorem hash_bucket (nm:List UInt8) (W:World) (h:nm.length≤maxLen):Calls Tryz.prog 23 #[.string ⟨nm.toArray⟩] W fun e w'=>e = .returned (.int .i64 ((Im.bucket nm:Nat):Int))∧W = w':=hash_ref ⟨nm.toArray⟩ W h
def Dc.RHPost (w:World) (b:List UInt8) (a k:Nat) (e:Ending) (w':World):Prop:=∃ H:Dc.H,e = .returned (.tuple #[H.v,.bool (Dc.okR b a k)])∧(Dc.okR b a k = true→H = Dc.here b a)∧Below w.heap.size w w'
theorem Dc.RHPost.no {w w':World} {b:List UInt8} {a k:Nat} (nm:List UInt8) (fl lk xt sz:Nat) (h:Dc.okR b a k = false) (hb:Below w.heap.size w w') :
  Dc.RHPost w b a k (.returned (.tuple #[.agg #[.string ⟨nm.toArray⟩,.int .i64 (fl:Int),.int .u32 (lk:Int),.int .u32 (xt:Int),.int .u32 (sz:Int)],.bool false])) w':=
 ⟨⟨nm,fl,lk,xt,sz⟩,by rw [h],fun h'=>(by rw [h] at h';cases h'),hb⟩
end Go.Proofs.YtpcpaoeajcjoiaaGreatDoor
