/- Texts joined, what is not reached left out. -/
import Derived.Test.YtpcpaoeajcjoiaaGreatDoorIB
import Derived.Test.YtpcpaoeajcjoiaaGreatDoorIC
import Derived.Test.YtpcpaoeajcjoiaaGreatDoorKA
set_option linter.unusedVariables false
set_option linter.unusedSimpArgs false
namespace Go.Proofs.YtpcpaoeajcjoiaaGreatDoor
open Go.RowKit
def Is.nameAt (k:Nat):ByteArray:=⟨(Is.forms.getD k default).name.toArray⟩
def Is.pos (s:ByteArray):Nat:=(List.range 48).findIdx (fun k=>decide (Is.nameAt k = s))
theorem Is.pos_yes {s:ByteArray} {k:Nat} (hk:k < 48) (h:Is.nameAt k = s) (hno:∀ j,j < k→Is.nameAt j ≠ s):Is.pos s = k:=by
 unfold Is.pos
 rw [List.findIdx_eq (by simpa using hk)]
 refine ⟨by simpa using h,fun j hj=>by simpa using hno j hj⟩
theorem Is.pos_no {s:ByteArray} (hno:∀ j,j < 48→Is.nameAt j ≠ s):Is.pos s = 48:=by
 unfold Is.pos
 rw [List.findIdx_eq_length_of_false]
 ·simp
 ·intro x hx
  have:=hno x (by simpa using hx)
  simpa using this
def Is.found (s:ByteArray):Int:=if Is.pos s < 48 then Is.pos s else 0
def Is.isName (s:ByteArray):Bool:=decide (Is.pos s < 48)
theorem beq_str (a b:ByteArray):(a.toList == b.toList) = decide (a = b):=by
 rw [Bool.eq_iff_iff]
 simp only [beq_iff_eq,decide_eq_true_eq,ByteArray.toList_eq]
 constructor
 ·intro h
  cases a;cases b
  simp only [ByteArray.mk.injEq]
  exact Array.toList_inj.1 h
 ·rintro rfl;rfl
theorem ret_ib {a a':Int} {b b':Bool} (h:a = a') (h':b = b'):Ending.returned (.tuple #[.int .i64 a,.bool b]) = .returned (.tuple #[.int .i64 a',.bool b']):=by rw [h,h']
end Go.Proofs.YtpcpaoeajcjoiaaGreatDoor
namespace Go.Proofs.YtpcpaoeajcjoiaaGreatDoor
open Go.RowKit Kit
theorem beq_str2 (l:List UInt8) (s:ByteArray):(l == s.toList) = decide ((⟨l.toArray⟩:ByteArray) = s):=by
 rw [← beq_str,ByteArray.toList_mk l]
theorem clo_any (f:Is.Form) (s:ByteArray) (gs:Nat) (W:World) (hs:W.cell? ⟨gs,0,none⟩ = some (.string s)) :
  Calls Tryz.prog 209 #[Is.fvv f,.pointer (some ⟨gs,0,none⟩)] W fun e w'=>e = .returned (.bool (f.name == s.toList))∧Below W.heap.size W w':=by
 obtain ⟨nm,sh,co,th,se⟩:=f
 dsimp only at *
 have hlt:gs < W.heap.size:=World.block_lt_of_cell? W _ hs
 have hc:(W.alloc (.cells #[.string ⟨nm.toArray⟩,.int .i64 sh,.int .u32 co,.int .u32 th,.int .u32 se] 303)).cell? ⟨gs,0,none⟩ = some (.string s):=(World.cell?_alloc_past _ _ _ hlt).trans hs
 go_enter Tryz.func209,Tryz.ntmps209
 go_wp2
 go_ret
 exact ⟨rfl,(Below.refl _ _).alloc (Nat.le_refl _) _⟩
def Is.idx (s:ByteArray):Int:=if Is.pos s < 48 then Is.pos s else -1
theorem ret_idx {a b:Int} (h:a = b):Ending.returned (.int .i64 a) = .returned (.int .i64 b):=by rw [h]
set_option maxRecDepth 20000 in
theorem idxfunc_any (g gs:Nat) (t:TypeId) (s:ByteArray) (W:World) (hg:Bk W g t Is.cells) (hs:W.cell? ⟨gs,0,none⟩ = some (.string s)) :
  Calls Tryz.prog 208 #[.slice (some ⟨g,0,none⟩) 48 48,.func (.func 209) #[] #[.pointer (some ⟨gs,0,none⟩)]] W fun e w'=>e = .returned (.int .i64 (Is.idx s))∧Below W.heap.size W w':=by
 have HY:=Lib.hid (fun (k:Nat) (hk:k < 48) (h:Is.nameAt k = s) (hno:∀ j,j < k→Is.nameAt j ≠ s)=>show Is.idx s = k by
  unfold Is.idx;rw [Is.pos_yes hk h hno,if_pos hk])
 have HN:=Lib.hid (fun (hno:∀ j,j < 48→Is.nameAt j ≠ s)=>show Is.idx s = -1 by
  unfold Is.idx;rw [Is.pos_no hno,if_neg (by omega)])
 have HC:=Lib.hid (show ∀ W',Below W.heap.size W W'→W'.cell? ⟨gs,0,none⟩ = some (.string s)∧∀ k,k < 48→∃ f:Is.Form,(⟨f.name.toArray⟩:ByteArray) = Is.nameAt k ∧
   (W'.cell? ⟨g,k * 5,none⟩ = some (.string ⟨f.name.toArray⟩)∧W'.cell? ⟨g,k * 5+1,none⟩ = some (.int .i64 f.shape)∧W'.cell? ⟨g,k * 5+2,none⟩ = some (.int .u32 f.code)∧W'.cell? ⟨g,k * 5+3,none⟩ = some (.int .u32 f.three)∧W'.cell? ⟨g,k * 5+4,none⟩ = some (.int .u32 f.seven)) from fun W' hb=>by
  refine ⟨(hb.cell (p:=⟨gs,0,none⟩) (World.block_lt_of_cell? W _ hs)).trans hs,fun k hk=>⟨Is.forms.getD k default,rfl,?_⟩⟩
  have hg':=hg.kept hb
  have hat:=fun i (hi:i < 5)=>(flat_at Is.fv 5 (fun _=>rfl) Is.forms k i default hk hi)
  refine ⟨(hg'.cell _).trans ?_,(hg'.cell _).trans ?_,(hg'.cell _).trans ?_,(hg'.cell _).trans ?_,(hg'.cell _).trans ?_⟩
  ·have:=hat 0 (by omega);simpa [Is.cells,Is.fv] using this
  ·have:=hat 1 (by omega);simpa [Is.cells,Is.fv] using this
  ·have:=hat 2 (by omega);simpa [Is.cells,Is.fv] using this
  ·have:=hat 3 (by omega);simpa [Is.cells,Is.fv] using this
  ·have:=hat 4 (by omega);simpa [Is.cells,Is.fv] using this)
 clear hg hs
 go_enter Tryz.func208,Tryz.ntmps208
 go_wp2_with fail
 go_loopw [8] (fun i wr=>∃ k:Nat,k≤48∧i = .int .i64 k∧(∀ j,j < k→Is.nameAt j ≠ s)∧Below W.heap.size W wr) (fun i _=>48 - (intOf i).toNat)
 case atStart=>exact ⟨0,Nat.zero_le _,rfl,fun j hj=>absurd hj (by omega),Below.refl _ _⟩
 case round=>
  obtain ⟨k,hk,rfl,hall,hbr⟩:=hrel
  have HALL:=Lib.hid hall
  have HBR:=Lib.hid hbr
  clear hall hbr
  by_cases hlt:k < 48
  ·obtain ⟨qs,hq⟩:=HC.out _ HBR.out
   obtain ⟨f,hnm,q0,q1,q2,q3,q4⟩:=hq k hlt
   have HNM:=Lib.hid hnm
   have HCL:=Lib.hid (clo_any f s gs wr qs)
   have hlt':(k:Int) < 48:=by omega
   clear hq hnm
   go_wp2_with fail
   refine HCL.out.mono ?_
   rintro e w1 ⟨rfl,hb1⟩
   have HB1:=Lib.hid (HBR.out.trans (hb1.mono HBR.out.size))
   clear hb1
   by_cases he:(⟨f.name.toArray⟩:ByteArray) = s
   ·have ge:(f.name == s.toList) = true:=by rw [beq_str2];simpa using he
    rw [ge]
    have HR:=Lib.hid (HY.out k hlt (HNM.out.symm.trans he) HALL.out)
    clear he ge
    go_wp2_with fail
    go_ret
    exact ⟨ret_idx HR.out.symm,HB1.out⟩
   ·have ge:(f.name == s.toList) = false:=by rw [beq_str2];simpa using he
    rw [ge]
    have HE:=Lib.hid he
    clear he ge
    go_wp2_with fail
    go_roundw
    case rel=>
     refine ⟨k+1,by omega,by go_num,fun j hj=>?_,HB1.out⟩
     by_cases hjk:j = k
     ·subst hjk;rw [← HNM.out];exact HE.out
     ·exact HALL.out j (by omega)
    case measure=>simp [intOf];omega
  ·obtain rfl:k = 48:=by omega
   have HR:=Lib.hid (HN.out HALL.out)
   go_wp2_with fail
   go_ret
   exact ⟨ret_idx HR.out.symm,HBR.out⟩
set_option maxRecDepth 100000 in
theorem byname_own (s:ByteArray) (w:World):Calls Tryz.prog 137 #[.string s] w fun e w'=>e = .returned (.tuple #[.int .i64 (Is.found s),.bool (Is.isName s)])∧Below w.heap.size w w':=by
 have HF:=Lib.hid (fun W=>forms_any W)
 go_enter Tryz.func137,Tryz.ntmps137
 go_wp2_with fail
 refine (HF.out _).mono ?_
 rintro e w1 ⟨rfl,hb1⟩
 rw [World.size_alloc] at hb1
 have hs:w1.cell? ⟨w.heap.size,0,none⟩ = some (.string s):=(hb1.cell (p:=⟨w.heap.size,0,none⟩) (by simp)).trans (by go_simp)
 have HB1:=Lib.hid (((Below.refl w.heap.size w).alloc (Nat.le_refl _) (.cells #[.string s] 9)).trans (hb1.mono (by omega)))
 have hz1:w.heap.size+1≤w1.heap.size:=by have:=hb1.size;rw [World.size_alloc] at this;exact this
 clear hb1
 go_wp2_with (first | (refine wpList_run (o:=⟨_,.alloc _,_,_,_,_⟩) (v:=.pointer (some ⟨w1.heap.size,0,none⟩)) (w':=w1.alloc (.cells Is.zero 304)) rfl (by kernel_rfl) ?_) | (refine wpList_store_row rfl 304 (.tmp 4) (.tmp 6) rfl w1.heap.size Is.cells rfl rfl 304 Is.zero (heap_alloc_last w1 _) (by kernel_rfl) (by kernel_rfl) (by kernel_rfl) ?_;rw [World.setRow_alloc_new]))
 have hs2:(w1.alloc (.cells Is.cells 304)).cell? ⟨w.heap.size,0,none⟩ = some (.string s):=(World.cell?_alloc_past _ _ _ (World.block_lt_of_cell? _ _ hs)).trans hs
 refine (idxfunc_any _ _ 304 s _ (Bk.fresh w1 _ _) hs2).mono ?_
 rintro e w2 ⟨rfl,hb2⟩
 have HB2:=Lib.hid ((HB1.out.alloc (by omega) (.cells Is.cells 304)).trans (hb2.mono (by simp;omega)))
 clear hb2 hs hs2 HB1
 have HF1:=Lib.hid (show Is.found s = if Is.pos s < 48 then (Is.pos s:Int) else (0:Int) from rfl)
 have HF2:=Lib.hid (show Is.isName s = decide (Is.pos s < 48) from rfl)
 unfold Is.idx
 generalize Is.pos s = p at *
 by_cases hp:p < 48
 ·rw [if_pos hp]
  have HP:=Lib.hid hp
  have hp0:(0:Int)≤p:=by omega
  clear hp
  go_wp2_with fail
  go_ret2
  exact ⟨ret_ib (by rw [HF1.out,if_pos HP.out]) (by rw [HF2.out];simp [HP.out]),HB2.out⟩
 ·rw [if_neg hp]
  have HP:=Lib.hid hp
  clear hp
  go_wp2_with fail
  go_ret2
  exact ⟨ret_ib (by rw [HF1.out,if_neg HP.out];first | done | decide) (by rw [HF2.out];simp [HP.out]),HB2.out⟩
end Go.Proofs.YtpcpaoeajcjoiaaGreatDoor
