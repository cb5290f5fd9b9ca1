/- Texts joined, what is not reached left out. -/
import Derived.Test.YtpcpaoeajcjoiaaGreatDoorXM
import Derived.Test.YtpcpaoeajcjoiaaGreatDoorBD
import Derived.Test.YtpcpaoeajcjoiaaGreatDoorCP
set_option linter.unusedVariables false
set_option linter.unusedSimpArgs false
namespace Go.Proofs.YtpcpaoeajcjoiaaGreatDoor
open Go.RowKit Kit
theorem Xc.while_at (p : UInt8 → Bool) : ∀ (l : List UInt8) (k : Nat),k ≤ l.length → (∀ j,j < k → p (l.getD j 0) = true) → (k = l.length ∨ p (l.getD k 0) = false) → l.takeWhile p = l.take k ∧ l.dropWhile p = l.drop k
 | [],k,hk,_,_=>by simp
 | c :: t,0,_,_,h=>by
  rcases h with h | h
  ·simp at h
  ·have h' : p c = false:=h
   simp [List.takeWhile_cons,List.dropWhile_cons,h']
 | c :: t,k + 1,hk,hno,h=>by
  have hc : p c = true:=hno 0 (by omega)
  have:=Xc.while_at p t k (by simpa using hk) (fun j hj=>hno (j + 1) (by omega)) (by
   rcases h with h | h
   ·left;simpa using h
   ·right;exact h)
  simp [List.takeWhile_cons,List.dropWhile_cons,hc,this]
theorem Xc.skip_at {s : List UInt8} {k : Nat} (hk : k ≤ s.length) (hno : ∀ j,j < k → Xc.gap (s.getD j 0) = true) (h : k = s.length ∨ Xc.gap (s.getD k 0) = false) : Xc.skip s = s.drop k:=(Xc.while_at Xc.gap s k hk hno h).2
theorem Xc.word_at {s : List UInt8} {k n : Nat} (hs : Xc.skip s = s.drop k) (hkn : k ≤ n) (hn : n ≤ s.length) (hno : ∀ j,k ≤ j → j < n → Xc.gap (s.getD j 0) = false) (h : n = s.length ∨ Xc.gap (s.getD n 0) = true) : Xc.word s = (s.drop k).take (n - k) ∧ Xc.rest s = s.drop n:=by
 have hd : ∀ j,(s.drop k).getD j 0 = s.getD (k + j) 0:=fun j=>by simp [List.getD,List.getElem?_drop]
 have:=Xc.while_at (fun c=>!Xc.gap c) (s.drop k) (n - k) (by simp;omega) (fun j hj=>by rw [hd,hno (k + j) (by omega) (by omega)];rfl) (by
  rcases h with h | h
  ·left;simp [h]
  ·right;rw [hd,show k + (n - k) = n by omega,h];rfl)
 unfold Xc.word Xc.rest
 rw [hs,this.1,this.2,List.drop_drop,show k + (n - k) = n by omega]
 exact ⟨rfl,rfl⟩
theorem Xc.gap_le {c : UInt8} (h : Xc.gap c = true) : (c.toNat : Int) ≤ 32:=by have:=of_decide_eq_true h;omega
theorem Xc.gap_gt {c : UInt8} (h : Xc.gap c = false) : (32 : Int) < (c.toNat : Int):=by have:=of_decide_eq_false h;omega
theorem Xc.word_len (s : List UInt8) : (Xc.word s).length ≤ s.length ∧ (Xc.rest s).length ≤ s.length:=by
 have h1 : (Xc.skip s).length ≤ s.length:=(List.dropWhile_sublist _).length_le
 exact ⟨Nat.le_trans (List.takeWhile_sublist _).length_le h1,Nat.le_trans (List.dropWhile_sublist _).length_le h1⟩
set_option maxRecDepth 100000 in
set_option maxHeartbeats 2000000 in
theorem xnext_any (g : Nat) (s : List UInt8) (w : World) (hc : w.cell? ⟨g,0,none⟩ = some (.string ⟨s.toArray⟩)) (hf : w.frozen? ⟨g,0,none⟩ = false) (hs : s.length ≤ 1000000000) :
  Calls Tryz.prog 120 #[.pointer (some ⟨g,0,none⟩)] w fun e w'=>e = .returned (.string ⟨(Xc.word s).toArray⟩) ∧ w' = w.setCell ⟨g,0,none⟩ (.string ⟨(Xc.rest s).toArray⟩):=by
 have HD:=Lib.hid (fun k (hk : k < s.length)=>L6.get_data s k hk)
 have HS:=Lib.hid hs
 clear hs
 go_enter Tryz.func120,Tryz.ntmps120
 go_wp2_with fail
 go_loop [3] (fun i=>∃ k : Nat,i = .int .i64 (k : Int) ∧ k ≤ s.length ∧ ∀ j,j < k → Xc.gap (s.getD j 0) = true) (fun i=>s.length - (intOf i).toNat)
 case atStart=>exact ⟨0,rfl,Nat.zero_le _,fun j hj=>absurd hj (by omega)⟩
 case round=>
  obtain ⟨k,rfl,hk,hno⟩:=hrel
  have HSA:=Lib.hid (fun h=>Xc.skip_at hk hno h)
  have HN:=Lib.hid hno
  clear hno
  by_cases hlt : k < s.length
  ·have hlt' : (k : Int) < (s.length : Int):=by omega
   have hw1 : IntKind.i64.wrap ((k : Int) + 1) = (k : Int) + 1:=by have:=HS.out;rw [IntKind.wrap_i64];omega
   have hdd:=HD.out k hlt
   have HLT:=Lib.hid hlt
   cases hg : Xc.gap (s.getD k 0)
   ·have h32 : ¬ ((((⟨s.toArray⟩ : ByteArray)[k]'hlt).toNat : Int)) ≤ 32:=by rw [hdd];have:=Xc.gap_gt hg;omega
    have HSK:=Lib.hid (HSA.out (.inr hg))
    clear hg hdd
    have HKL:=Lib.hid hk
    go_wp2_with fail
    go_loop [4] (fun i=>∃ n : Nat,i = .int .i64 (n : Int) ∧ k ≤ n ∧ n ≤ s.length ∧ ∀ j,k ≤ j → j < n → Xc.gap (s.getD j 0) = false) (fun i=>s.length - (intOf i).toNat)
    case atStart=>exact ⟨k,rfl,Nat.le_refl _,HKL.out,fun j h1 h2=>absurd h1 (by omega)⟩
    case round=>
     obtain ⟨n,rfl,hkn,hn,hno2⟩:=hrel
     have HW:=Lib.hid (fun h=>Xc.word_at HSK.out hkn hn hno2 h)
     have HN2:=Lib.hid hno2
     clear hno2
     have fin : ∀ (h : n = s.length ∨ Xc.gap (s.getD n 0) = true),(⟨s.toArray⟩ : ByteArray).extract k n = ⟨(Xc.word s).toArray⟩ ∧ (⟨s.toArray⟩ : ByteArray).extract n s.length = ⟨(Xc.rest s).toArray⟩:=fun h=>by
      obtain ⟨e1,e2⟩:=HW.out h
      rw [ext_eq,ext_eq,e1,e2,List.take_of_length_le (l:=s.drop n) (by simp)]
      exact ⟨rfl,rfl⟩
     have HFIN:=Lib.hid fin
     clear fin
     have hkni : (k : Int) ≤ (n : Int):=by omega
     have hnni : (n : Int) ≤ (s.length : Int):=by omega
     by_cases hlt2 : n < s.length
     ·have hlt2' : (n : Int) < (s.length : Int):=by omega
      have hwn : IntKind.i64.wrap ((n : Int) + 1) = (n : Int) + 1:=by have:=HS.out;rw [IntKind.wrap_i64];omega
      have hdd:=HD.out n hlt2
      have HLT2:=Lib.hid hlt2
      cases hg2 : Xc.gap (s.getD n 0)
      ·have h32:=Xc.gap_gt hg2
       rw [← hdd] at h32
       have HNX:=Lib.hid (show ∀ j,k ≤ j → j < n + 1 → Xc.gap (s.getD j 0) = false from fun j h1 h2=>by
        by_cases e : j = n
        ·subst e;exact hg2
        ·exact HN2.out j h1 (by omega))
       clear hg2 hdd
       go_wp2_with fail
       go_round
       case rel=>exact ⟨n + 1,by simp,by omega,HLT2.out,HNX.out⟩
       case measure=>have:=HLT2.out;simp [intOf];omega
      ·have h32 : ¬ (32 : Int) < (((⟨s.toArray⟩ : ByteArray)[n]'hlt2).toNat : Int):=by rw [hdd];have:=Xc.gap_le hg2;omega
       have HR:=Lib.hid (HFIN.out (.inr hg2))
       clear hg2 hdd
       go_wp2_with fail
       go_ret
       exact ⟨congrArg (fun x=>Ending.returned (.string x)) HR.out.1,congrArg (fun x=>w.setCell ⟨g,0,none⟩ (.string x)) HR.out.2⟩
     ·have hge2 : ¬ (n : Int) < (s.length : Int):=by omega
      have HR:=Lib.hid (HFIN.out (.inl (by omega)))
      clear hlt2
      go_wp2_with fail
      go_ret
      exact ⟨congrArg (fun x=>Ending.returned (.string x)) HR.out.1,congrArg (fun x=>w.setCell ⟨g,0,none⟩ (.string x)) HR.out.2⟩
   ·have h32:=Xc.gap_le hg
    rw [← hdd] at h32
    have HNX:=Lib.hid (show ∀ j,j < k + 1 → Xc.gap (s.getD j 0) = true from fun j h2=>by
     by_cases e : j = k
     ·subst e;exact hg
     ·exact HN.out j (by omega))
    clear hg hdd
    go_wp2_with fail
    go_round
    case rel=>exact ⟨k + 1,by simp,HLT.out,HNX.out⟩
    case measure=>have:=HLT.out;simp [intOf];omega
  ·have hge : ¬ (k : Int) < (s.length : Int):=by omega
   have HSK:=Lib.hid (HSA.out (.inl (by omega)))
   clear hlt
   have HKL:=Lib.hid hk
   go_wp2_with fail
   go_loop [4] (fun i=>∃ n : Nat,i = .int .i64 (n : Int) ∧ k ≤ n ∧ n ≤ s.length ∧ ∀ j,k ≤ j → j < n → Xc.gap (s.getD j 0) = false) (fun i=>s.length - (intOf i).toNat)
   case atStart=>exact ⟨k,rfl,Nat.le_refl _,HKL.out,fun j h1 h2=>absurd h1 (by omega)⟩
   case round=>
    obtain ⟨n,rfl,hkn,hn,hno2⟩:=hrel
    have HW:=Lib.hid (fun h=>Xc.word_at HSK.out hkn hn hno2 h)
    have HN2:=Lib.hid hno2
    clear hno2
    have fin : ∀ (h : n = s.length ∨ Xc.gap (s.getD n 0) = true),(⟨s.toArray⟩ : ByteArray).extract k n = ⟨(Xc.word s).toArray⟩ ∧ (⟨s.toArray⟩ : ByteArray).extract n s.length = ⟨(Xc.rest s).toArray⟩:=fun h=>by
     obtain ⟨e1,e2⟩:=HW.out h
     rw [ext_eq,ext_eq,e1,e2,List.take_of_length_le (l:=s.drop n) (by simp)]
     exact ⟨rfl,rfl⟩
    have HFIN:=Lib.hid fin
    clear fin
    have hkni : (k : Int) ≤ (n : Int):=by omega
    have hnni : (n : Int) ≤ (s.length : Int):=by omega
    have hge2 : ¬ (n : Int) < (s.length : Int):=by omega
    have HR:=Lib.hid (HFIN.out (.inl (by omega)))
    go_wp2_with fail
    go_ret
    exact ⟨congrArg (fun x=>Ending.returned (.string x)) HR.out.1,congrArg (fun x=>w.setCell ⟨g,0,none⟩ (.string x)) HR.out.2⟩
theorem Xc.idx_cases : ∀ (s : List UInt8) (c : UInt8),(Lib.indexByte s c = -1 ∧ Xc.upTo c s = []) ∨ ∃ i : Nat,i < s.length ∧ Lib.indexByte s c = i ∧ Xc.upTo c s = s.drop (i + 1)
 | [],c=>.inl ⟨rfl,rfl⟩
 | x :: t,c=>by
  by_cases hx : x = c
  ·right
   refine ⟨0,by simp,?_,?_⟩
   ·unfold Lib.indexByte;rw [if_pos (by simp [hx])];rfl
   ·unfold Xc.upTo;rw [List.dropWhile_cons,if_neg (by simp [hx])]
  ·have hb : ¬ (x == c) = true:=by simpa using hx
   have hu : Xc.upTo c (x :: t) = Xc.upTo c t:=by unfold Xc.upTo;rw [List.dropWhile_cons,if_pos (by simpa using hx)]
   rcases Xc.idx_cases t c with ⟨h1,h2⟩ | ⟨i,h1,h2,h3⟩
   ·left
    exact ⟨by unfold Lib.indexByte;rw [if_neg hb,h1];rfl,by rw [hu,h2]⟩
   ·right
    refine ⟨i + 1,by simpa using h1,?_,by rw [hu,h3];rfl⟩
    unfold Lib.indexByte
    rw [if_neg hb,h2,if_neg (by simp)]
    simp
def Xc.CutPost (c : UInt8) (s : List UInt8) (w : World) (e : Ending) (w' : World) : Prop:=∃ a b,e = .returned (.tuple #[.string a,.string ⟨(Xc.upTo c s).toArray⟩,.bool b]) ∧ ∃ n,w' = w.drewN n
theorem lret_ssb' (a : ByteArray) {b b' : ByteArray} {x y : Bool} (h2 : b = b') (h3 : x = y) : Ending.returned (.tuple #[.string a,.string b,.bool x]) = .returned (.tuple #[.string a,.string b',.bool y]):=by rw [h2,h3]
set_option maxRecDepth 100000 in
set_option maxHeartbeats 1000000 in
theorem xcut0_any (c : UInt8) (s : List UInt8) (w : World) (hs : s.length ≤ 1000000000) : Calls Tryz.prog 239 #[.string ⟨s.toArray⟩,.string ⟨#[c]⟩] w (Xc.CutPost c s w):=by
 have CI:=fun W=>Tryz.stringslite_Index_one ⟨s.toArray⟩ c W
 rw [show ((⟨s.toArray⟩ : ByteArray).data.toList) = s from rfl] at CI
 rcases Xc.idx_cases s c with ⟨h1,h2⟩ | ⟨i,h1,h2,h3⟩
 ·rw [h1] at CI
  have HR:=Lib.hid h2
  have CI:=Lib.hid CI
  clear h1 h2
  go_enter Tryz.func239,Tryz.ntmps239
  go_wp2_with (go_at_call 228;refine (CI.out _).mono ?_;rintro e w' ⟨rfl,rfl⟩)
  go_ret3
  exact ⟨_,_,lret_ssb' _ (by rw [HR.out]) rfl,0,rfl⟩
 ·rw [h2] at CI
  have CI:=Lib.hid CI
  have HR:=Lib.hid (show (⟨s.toArray⟩ : ByteArray).extract (i + 1) s.length = ⟨(Xc.upTo c s).toArray⟩ from by rw [ext_eq,h3,List.take_of_length_le (by simp)])
  have hi1 : (i : Int) < s.length:=by omega
  have hi0 : (i : Int) ≤ s.length:=by omega
  have hi2 : (i : Int) + 1 ≤ s.length:=by omega
  have hi3 : (0 : Int) ≤ (i : Int) + 1:=by omega
  have hi4 : ((i : Int) + 1).toNat = i + 1:=by omega
  have hwr : IntKind.i64.wrap ((i : Int) + 1) = (i : Int) + 1:=by rw [IntKind.wrap_i64];omega
  clear h1 h2 h3
  go_enter Tryz.func239,Tryz.ntmps239
  go_wp2_with (go_at_call 228;refine (CI.out _).mono ?_;rintro e w' ⟨rfl,rfl⟩)
  go_quiet (fail)
  go_wp2_with fail
  go_ret3
  exact ⟨_,_,lret_ssb' _ HR.out rfl,nq,rfl⟩
theorem xcut_any (c : UInt8) (s : List UInt8) (w : World) (hs : s.length ≤ 1000000000) : Calls Tryz.prog 181 #[.string ⟨s.toArray⟩,.string ⟨#[c]⟩] w (Xc.CutPost c s w):=by
 have CI:=Lib.hid (xcut0_any c s w hs)
 go_enter Tryz.func181,Tryz.ntmps181
 go_wp2_with (go_at_call 239;refine CI.out.mono ?_;rintro e w' ⟨a,b,rfl,n,rfl⟩)
 go_ret3
 exact ⟨_,_,rfl,n,rfl⟩
theorem below_drewN {B : Nat} {w w' : World} (h : Below B w w') (n : Nat) : Below B w (w'.drewN n):=⟨h.os,h.tape,h.output,h.size,h.block⟩
def Xc.UpPost (g : Nat) (s : List UInt8) (w : World) (e : Ending) (w' : World) : Prop:=(∃ v,e = .returned v) ∧ ∃ w1,Below w.heap.size w w1 ∧ w' = w1.setCell ⟨g,0,none⟩ (.string ⟨(Xc.upTo 41 s).toArray⟩)
set_option maxRecDepth 100000 in
set_option maxHeartbeats 2000000 in
theorem xupto_any (g : Nat) (s : List UInt8) (w : World) (hg : g < w.heap.size) (hc : w.cell? ⟨g,0,none⟩ = some (.string ⟨s.toArray⟩)) (hf : w.frozen? ⟨g,0,none⟩ = false) (hs : s.length ≤ 1000000000) :
  Calls Tryz.prog 121 #[.pointer (some ⟨g,0,none⟩),.int .u8 41] w (Xc.UpPost g s w):=by
 have CC:=Lib.hid (fun W=>xcut_any 41 s W hs)
 have HW:=Lib.hid (fun W (hW : Below w.heap.size w W)=>show W.cell? ⟨g,0,none⟩ = some (.string ⟨s.toArray⟩) ∧ W.frozen? ⟨g,0,none⟩ = false from ⟨(hW.cell (p:=⟨g,0,none⟩) hg).trans hc,(hW.frozen (p:=⟨g,0,none⟩) hg).trans hf⟩)
 have HCV:=Lib.hid (fun (W : World) (hb : Bk W w.heap.size 5 #[.int .u8 41])=>show (convert 26 9 (.slice (some ⟨w.heap.size,0,none⟩) 1 1)).run Tryz.prog W = .ok (.string ⟨#[41]⟩) W from
  run_string_of lbt Tryz.underlying9 (l:=[41]) (.inr ⟨w.heap.size,0,1,rfl,hb.lt,Nat.le_refl _,by unfold maxLen;omega,fun j hj=>by
   have : j = 0:=by simpa using hj
   subst this
   exact hb.cell 0⟩))
 have HFR:=Lib.hid (Bk.fresh w 5 #[.int .u8 41])
 go_enter Tryz.func121,Tryz.ntmps121
 go_wp2_with fail
 refine wp_region_held_drew (S:=fun W'=>W'.cell? ⟨g,0,none⟩ = some (.string ⟨s.toArray⟩)) (by kernel_rfl) ((HW.out _ (Below.refl _ _).drew).1) (fun hHeld=>?_)
 refine wpAnyH_take (i:=0) (v:=?_) rfl (by kernel_rfl) (by kernel_rfl) (by kernel_rfl) (fun _ _ _ h=>h) (Or.inl ⟨by rfl,?_⟩) (by assumption) ?_
 rotate_left
 ·(intro w hSw;(try dsimp only at hSw);simp only [List.getElem_toArray,List.getElem_cons_zero,List.getElem_cons_succ];go_simp;(try with_reducible rfl))
 try simp only [Act.put,List.getElem_toArray,List.getElem_cons_zero,List.getElem_cons_succ,List.setIfInBounds_toArray,List.set_cons_zero,List.set_cons_succ]
 refine wpAnyH_take (i:=1) (v:=?_) rfl (by kernel_rfl) (by kernel_rfl) (by kernel_rfl) (fun _ _ _ h=>h) (Or.inl ⟨by rfl,?_⟩) (by assumption) ?_
 rotate_left
 ·(intro w hSw;(try dsimp only at hSw);simp only [List.getElem_toArray,List.getElem_cons_zero,List.getElem_cons_succ];go_simp;(try with_reducible rfl))
 try simp only [Act.put,List.getElem_toArray,List.getElem_cons_zero,List.getElem_cons_succ,List.setIfInBounds_toArray,List.set_cons_zero,List.set_cons_succ]
 refine wpAnyH_take (i:=2) (v:=?_) rfl (by kernel_rfl) (by kernel_rfl) (by kernel_rfl) (fun _ _ _ h=>h) (Or.inl ⟨by rfl,?_⟩) (by assumption) ?_
 rotate_left
 ·(intro w hSw;(try dsimp only at hSw);simp only [List.getElem_toArray,List.getElem_cons_zero,List.getElem_cons_succ];go_simp;(try with_reducible rfl))
 try simp only [Act.put,List.getElem_toArray,List.getElem_cons_zero,List.getElem_cons_succ,List.setIfInBounds_toArray,List.set_cons_zero,List.set_cons_succ]
 refine wpAnyH_take (i:=3) (v:=?_) rfl (by kernel_rfl) (by kernel_rfl) (by kernel_rfl) (fun _ _ _ h=>h) (Or.inl ⟨by rfl,?_⟩) (by assumption) ?_
 rotate_left
 ·(intro w hSw;(try dsimp only at hSw);simp only [List.getElem_toArray,List.getElem_cons_zero,List.getElem_cons_succ];go_simp;(try with_reducible rfl))
 try simp only [Act.put,List.getElem_toArray,List.getElem_cons_zero,List.getElem_cons_succ,List.setIfInBounds_toArray,List.set_cons_zero,List.set_cons_succ]
 refine wpAnyH_take (i:=4) (v:=?_) rfl (by kernel_rfl) (by kernel_rfl) (by kernel_rfl) (fun _ _ _ h=>h) (Or.inl ⟨by rfl,?_⟩) (by assumption) ?_
 rotate_left
 ·(intro w hSw;(try dsimp only at hSw);simp only [List.getElem_toArray,List.getElem_cons_zero,List.getElem_cons_succ];go_simp;(try with_reducible rfl))
 try simp only [Act.put,List.getElem_toArray,List.getElem_cons_zero,List.getElem_cons_succ,List.setIfInBounds_toArray,List.set_cons_zero,List.set_cons_succ]
 refine wpAnyH_ready (rs:=[5]) (by kernel_rfl) (by simp) ?_
 refine AllReadyH.cons rfl (fun K hK=>?_) AllReadyH.nil
 simp only [List.getElem_toArray,List.getElem_cons_zero,List.getElem_cons_succ]
 rw [if_pos (by rfl)]
 go_simp
 refine hK.out _ _ ((HW.out _ ((Below.refl _ _).drew.alloc (Nat.le_refl _) _)).1) (fun hHeld=>?_)
 clear hK K
 try simp only [Act.put,List.getElem_toArray,List.getElem_cons_zero,List.getElem_cons_succ,List.setIfInBounds_toArray,List.set_cons_zero,List.set_cons_succ]
 refine wpAnyH_ready (rs:=[6]) (by kernel_rfl) (by simp) ?_
 refine AllReadyH.cons rfl (fun K hK=>?_) AllReadyH.nil
 simp only [List.getElem_toArray,List.getElem_cons_zero,List.getElem_cons_succ]
 rw [if_pos (by rfl)]
 go_simp
 rw [HCV.out (w.alloc (.cells #[.int .u8 41] 5)).drew HFR.out]
 go_simp
 refine hK.out _ _ ((HW.out _ ((Below.refl _ _).drew.alloc (Nat.le_refl _) _)).1) (fun hHeld=>?_)
 clear hK K
 try simp only [Act.put,List.getElem_toArray,List.getElem_cons_zero,List.getElem_cons_succ,List.setIfInBounds_toArray,List.set_cons_zero,List.set_cons_succ]
 refine wpAnyH_ready (rs:=[7]) (by kernel_rfl) (by simp) ?_
 refine AllReadyH.cons rfl (fun K hK=>?_) AllReadyH.nil
 simp only [List.getElem_toArray,List.getElem_cons_zero,List.getElem_cons_succ]
 rw [if_pos (by rfl)]
 go_simp
 go_at_call 181
 refine (CC.out _).mono ?_
 rintro e w2 ⟨a,b,rfl,n,rfl⟩
 go_simp
 refine hK.out _ _ ((HW.out _ (below_drewN ((Below.refl _ _).alloc (Nat.le_refl _) _) _)).1) (fun hHeld=>?_)
 clear hK K
 try simp only [Act.put,List.getElem_toArray,List.getElem_cons_zero,List.getElem_cons_succ,List.setIfInBounds_toArray,List.set_cons_zero,List.set_cons_succ]
 refine wpAnyH_take (i:=8) (v:=?_) rfl (by kernel_rfl) (by kernel_rfl) (by kernel_rfl) (fun _ _ _ h=>h) (Or.inl ⟨by rfl,?_⟩) (by assumption) ?_
 rotate_left
 ·(intro w hSw;(try dsimp only at hSw);simp only [List.getElem_toArray,List.getElem_cons_zero,List.getElem_cons_succ];go_simp;(try with_reducible rfl))
 try simp only [Act.put,List.getElem_toArray,List.getElem_cons_zero,List.getElem_cons_succ,List.setIfInBounds_toArray,List.set_cons_zero,List.set_cons_succ]
 refine wpAnyH_take (i:=9) (v:=?_) rfl (by kernel_rfl) (by kernel_rfl) (by kernel_rfl) (fun _ _ _ h=>h) (Or.inl ⟨by rfl,?_⟩) (by assumption) ?_
 rotate_left
 ·(intro w hSw;(try dsimp only at hSw);simp only [List.getElem_toArray,List.getElem_cons_zero,List.getElem_cons_succ];go_simp;(try with_reducible rfl))
 try simp only [Act.put,List.getElem_toArray,List.getElem_cons_zero,List.getElem_cons_succ,List.setIfInBounds_toArray,List.set_cons_zero,List.set_cons_succ]
 refine wpAnyH_take (i:=10) (v:=?_) rfl (by kernel_rfl) (by kernel_rfl) (by kernel_rfl) (fun _ _ _ h=>h) (Or.inl ⟨by rfl,?_⟩) (by assumption) ?_
 rotate_left
 ·(intro w hSw;(try dsimp only at hSw);simp only [List.getElem_toArray,List.getElem_cons_zero,List.getElem_cons_succ];go_simp;(try with_reducible rfl))
 try simp only [Act.put,List.getElem_toArray,List.getElem_cons_zero,List.getElem_cons_succ,List.setIfInBounds_toArray,List.set_cons_zero,List.set_cons_succ]
 refine wpAnyH_take (i:=11) (v:=?_) rfl (by kernel_rfl) (by kernel_rfl) (by kernel_rfl) (fun _ _ _ h=>h) (Or.inl ⟨by rfl,?_⟩) (by assumption) ?_
 rotate_left
 ·(intro w hSw;(try dsimp only at hSw);simp only [List.getElem_toArray,List.getElem_cons_zero,List.getElem_cons_succ];go_simp;(try with_reducible rfl))
 try simp only [Act.put,List.getElem_toArray,List.getElem_cons_zero,List.getElem_cons_succ,List.setIfInBounds_toArray,List.set_cons_zero,List.set_cons_succ]
 refine wpAnyH_take (i:=12) (v:=?_) rfl (by kernel_rfl) (by kernel_rfl) (by kernel_rfl) (fun _ _ _ h=>h) (Or.inl ⟨by rfl,?_⟩) (by assumption) ?_
 rotate_left
 ·(intro w hSw;(try dsimp only at hSw);simp only [List.getElem_toArray,List.getElem_cons_zero,List.getElem_cons_succ];go_simp;(try with_reducible rfl))
 try simp only [Act.put,List.getElem_toArray,List.getElem_cons_zero,List.getElem_cons_succ,List.setIfInBounds_toArray,List.set_cons_zero,List.set_cons_succ]
 refine wpAnyH_take (i:=13) (v:=?_) rfl (by kernel_rfl) (by kernel_rfl) (by kernel_rfl) (fun _ _ _ h=>h) (Or.inl ⟨by rfl,?_⟩) (by assumption) ?_
 rotate_left
 ·(intro w hSw;(try dsimp only at hSw);simp only [List.getElem_toArray,List.getElem_cons_zero,List.getElem_cons_succ];go_simp;(try with_reducible rfl))
 try simp only [Act.put,List.getElem_toArray,List.getElem_cons_zero,List.getElem_cons_succ,List.setIfInBounds_toArray,List.set_cons_zero,List.set_cons_succ]
 refine wpAnyH_take (i:=14) (v:=?_) rfl (by kernel_rfl) (by kernel_rfl) (by kernel_rfl) (fun _ _ _ h=>h) (Or.inl ⟨by rfl,?_⟩) (by assumption) ?_
 rotate_left
 ·(intro w hSw;(try dsimp only at hSw);simp only [List.getElem_toArray,List.getElem_cons_zero,List.getElem_cons_succ];go_simp;(try with_reducible rfl))
 try simp only [Act.put,List.getElem_toArray,List.getElem_cons_zero,List.getElem_cons_succ,List.setIfInBounds_toArray,List.set_cons_zero,List.set_cons_succ]
 refine wpAnyH_done (by kernel_rfl) ?_ _
 go_wp2_with fail
 go_ret2
 exact ⟨⟨_,rfl⟩,_,below_drewN ((Below.refl _ _).alloc (Nat.le_refl _) _) _,rfl⟩
theorem xalone_any (s x : List UInt8) (w : World) (hs : s.length ≤ 1000000000) :
  Calls Tryz.prog 64 #[.string ⟨s.toArray⟩,.string ⟨x.toArray⟩] w fun e w'=>e = .returned (.bool (Xc.alone s x)) ∧ Below w.heap.size w w':=by
 obtain ⟨W1,hW1⟩ : ∃ W1,w.alloc (.cells #[.string ⟨s.toArray⟩] 133) = W1:=⟨_,rfl⟩
 have hbk : Bk W1 w.heap.size 133 #[.string ⟨s.toArray⟩]:=by rw [← hW1];exact Bk.fresh w _ _
 have hbe : Below w.heap.size w W1:=by rw [← hW1];exact (Below.refl _ _).alloc (Nat.le_refl _) _
 have hbk2:=hbk.set 0 (.string ⟨(Xc.rest s).toArray⟩)
 have hwl:=Xc.word_len s
 have C1:=Lib.hid (xnext_any w.heap.size s W1 (hbk.cell 0) (hbk.free 0) hs)
 have C2:=Lib.hid (xnext_any w.heap.size (Xc.rest s) (W1.setCell ⟨w.heap.size,0,none⟩ (.string ⟨(Xc.rest s).toArray⟩)) (hbk2.cell 0) (hbk2.free 0) (by omega))
 have HB1:=Lib.hid (hbe.setCell (p:=⟨w.heap.size,0,none⟩) (Nat.le_refl _) (.string ⟨(Xc.rest s).toArray⟩))
 have HB2:=Lib.hid ((hbe.setCell (p:=⟨w.heap.size,0,none⟩) (Nat.le_refl _) (.string ⟨(Xc.rest s).toArray⟩)).setCell (p:=⟨w.heap.size,0,none⟩) (Nat.le_refl _) (.string ⟨(Xc.rest (Xc.rest s)).toArray⟩))
 have HAL:=Lib.hid (show Xc.alone s x = (decide (Xc.word s = x) && (Xc.word (Xc.rest s)).isEmpty) from rfl)
 clear hbk hbk2 hwl hbe
 generalize Xc.rest (Xc.rest s) = s2 at *
 generalize Xc.word (Xc.rest s) = y2 at *
 generalize Xc.rest s = s1 at *
 generalize Xc.word s = y1 at *
 by_cases hx : y1 = x
 ·subst hx
  rw [show decide (y1 = y1) = true by simp,Bool.true_and] at HAL
  cases y2 with
  | nil=>
   go_enter Tryz.func64,Tryz.ntmps64
   go_wp2_with (first | (go_at_call 120;with_reducible refine C1.out.mono ?_;rintro e w' ⟨rfl,rfl⟩) | (go_at_call 120;with_reducible refine C2.out.mono ?_;rintro e w' ⟨rfl,rfl⟩))
   go_ret
   exact ⟨by rw [HAL.out];rfl,HB2.out⟩
  | cons c t=>
   go_enter Tryz.func64,Tryz.ntmps64
   go_wp2_with (first | (go_at_call 120;with_reducible refine C1.out.mono ?_;rintro e w' ⟨rfl,rfl⟩) | (go_at_call 120;with_reducible refine C2.out.mono ?_;rintro e w' ⟨rfl,rfl⟩))
   go_ret
   exact ⟨by rw [HAL.out];rfl,HB2.out⟩
 ·have hx2 : (y1 == x) = false:=by simpa using hx
  rw [decide_eq_false hx,Bool.false_and] at HAL
  clear hx
  go_enter Tryz.func64,Tryz.ntmps64
  go_wp2_with (go_at_call 120;with_reducible refine C1.out.mono ?_;rintro e w' ⟨rfl,rfl⟩)
  go_ret
  exact ⟨by rw [HAL.out];rfl,HB1.out⟩
theorem rd_new {W : World} {g : Nat} (l : List (List UInt8)) (h : Bk W g 9 (L6.sv l).toArray) (hn : l.length ≤ 1000000) : RdS W (.slice (some ⟨g,0,none⟩) l.length l.length) l:=
 ⟨by simp [L6.sv],_,l.length,rfl,Nat.le_refl _,by unfold maxLen;omega,fun _=>⟨g,0,rfl,h.lt,fun j u hu=>by rw [h.cell];simpa using hu⟩⟩
theorem rdS_src {W : World} {v : Value} {l : List (List UInt8)} (h : RdS W v l) : Src Tryz.prog 1 61 v l.length (L6.sv l) W:=Rd.src lsrt h (by intro u hu;simp [L6.sv] at hu;obtain ⟨a,_,rfl⟩:=hu;rfl)
set_option maxRecDepth 100000 in
set_option maxHeartbeats 2000000 in
theorem xput_any {F : Nat → Prop} {w : World} {gm : Nat} {tag : List UInt8} {S : Xc.S} (h : Xc.Mk F w gm tag S) (hne : S.words ≠ []) (hok : Xc.Ok 20 S) (v : Value) (ls : List (List UInt8)) (hv : RdS w v ls) (hl : ls.length ≤ 1000000) :
  Calls Tryz.prog 65 #[.pointer (some ⟨gm,0,none⟩),v] w fun e w'=>e = .returned (.tuple #[]) ∧ Xc.To F w gm tag (Xc.put ls S) w':=by
 obtain ⟨init,x,hS⟩:=Xc.words_last hne
 obtain ⟨gw,cap,vo,vl,h1,hnc,hcm,hgw,c0,c1,c2,f1,f2,hvl,hflag,hput⟩:=h.last hS
 have hwt:=hok.weight
 have hxl : x.lines.length + init.length ≤ 2000000000:=by
  rw [hS,Xc.weight_app,Xc.weight_one] at hwt
  have:=Xc.weight_len init
  have:=Xc.lsum_len x.lines
  unfold Xc.wt at hwt
  omega
 have k2:=h1.cell 2
 have HOW:=Lib.hid (fun (a : Nat)=>own_kept hvl (below_drewN (Below.refl w.heap.size w) a))
 have HSR:=Lib.hid (fun (a : Nat)=>rdS_src (Rd.kept hv (below_drewN (Below.refl w.heap.size w) a)))
 have HPUT:=Lib.hid (fun (a : Nat) (v' : Value) (w1 : World) ho (hg : (w.drewN a).grownBy w1 vl.ownBlock) hw=>hput v' w1 ls ho ⟨hg.os,hg.tape,hg.output,hg.size,hg.block⟩ hw)
 obtain ⟨A,c,rfl⟩:=(Rd.of_own hvl).form
 obtain ⟨A1,d1,rfl⟩:=Rd.form hv
 have HL1:=Lib.hid (show (x.lines.length + ls.length) * 16 ≤ 140737488355328 by omega)
 have HL2:=Lib.hid (show x.lines.length + ls.length ≤ maxLen by unfold maxLen;omega)
 simp only [Xc.cells,List.getElem?_toArray,List.getElem?_cons_succ,List.getElem?_cons_zero] at k2
 have HB:=Lib.hid hxl
 clear h hok hflag hput hv hvl hwt hS hxl h1 c0 c1 f1 hl
 generalize init.length = n at *
 have hwA : IntKind.i64.wrap ((n : Int) + 1 - 1) = (n : Int):=by have:=HB.out;rw [IntKind.wrap_i64];omega
 have hwB : IntKind.i64.wrap (n : Int) = (n : Int):=by have:=HB.out;rw [IntKind.wrap_i64];omega
 have hr0 : (0 : Int) ≤ (n : Int):=by omega
 have hr1 : (n : Int) < ((n + 1 : Nat) : Int):=by omega
 go_enter Tryz.func65,Tryz.ntmps65
 go_wp2_with fail
 go_quiet (fail)
 go_wp2_with (at_builtin;refine wpList_appendRB rfl _ _ _ _ rfl lsrt (by decide) 0 _ rfl x.lines.length (L6.sv x.lines) (HOW.out _) _ rfl ls.length (L6.sv ls) (HSR.out _) HL1.out HL2.out (Nat.zero_le _) ?_;intro v' w2 ho2 hb2 hg2 hv2;obtain ⟨A2,c2',rfl⟩:=(Rd.of_own ho2).form;obtain ⟨k5,k6,k7⟩:=HPUT.out _ _ _ ho2 hg2 hv2;clear ho2 hb2 hg2 hv2)
 go_end0
 exact ⟨rfl,k7.out⟩
-- the rest is printed by ops_gen.py
set_option maxRecDepth 100000 in
set_option maxHeartbeats 1000000 in
theorem xpush_any {F : Nat → Prop} {w : World} {gm : Nat} {tag : List UInt8} {S : Xc.S} (h : Xc.Mk F w gm tag S) (hne : S.words ≠ []) (hok : Xc.Ok 20 S) (how : List UInt8) (hh : how.length ≤ 500000) :
  Calls Tryz.prog 188 #[.pointer (some ⟨gm,0,none⟩),.string ⟨how.toArray⟩] w fun e w'=>e = .returned (.tuple #[]) ∧ Xc.To F w gm tag (Xc.push how S) w':=by
 have HPOST:=Lib.hid (show Xc.put [how,Xc.lAddi,Xc.lSw] S = Xc.push how S from rfl)
 have hbe : Below w.heap.size w (w.alloc (.cells #[.string ⟨how.toArray⟩,.string ⟨#[97,100,100,105,32,115,48,32,115,48,32,45,52]⟩,.string ⟨#[115,119,32,116,48,32,48,32,115,48]⟩] 9)):=(Below.refl _ _).alloc (Nat.le_refl _) _
 have CP:=Lib.hid (show Calls Tryz.prog 65 #[.pointer (some ⟨gm,0,none⟩),.slice (some ⟨w.heap.size,0,none⟩) 3 3] (w.alloc (.cells #[.string ⟨how.toArray⟩,.string ⟨#[97,100,100,105,32,115,48,32,115,48,32,45,52]⟩,.string ⟨#[115,119,32,116,48,32,48,32,115,48]⟩] 9)) fun e w'=>e = .returned (.tuple #[]) ∧ Xc.To F (w.alloc (.cells #[.string ⟨how.toArray⟩,.string ⟨#[97,100,100,105,32,115,48,32,115,48,32,45,52]⟩,.string ⟨#[115,119,32,116,48,32,48,32,115,48]⟩] 9)) gm tag (Xc.put [how,Xc.lAddi,Xc.lSw] S) w' from
  xput_any (h.kept hbe) hne hok (.slice (some ⟨w.heap.size,0,none⟩) 3 3) [how,Xc.lAddi,Xc.lSw] (rd_new [how,Xc.lAddi,Xc.lSw] (Bk.fresh w _ _) (by simp)) (by simp))
 have HBE:=Lib.hid hbe
 clear hbe h hne hok
 go_enter Tryz.func188,Tryz.ntmps188
 go_wp2_with (go_at_call 65;refine CP.out.mono ?_;rintro e w2 ⟨rfl,hto⟩)
 go_end0
 exact ⟨rfl,by rw [← HPOST.out];exact hto.after (Step.of_below HBE.out)⟩
set_option maxRecDepth 100000 in
set_option maxHeartbeats 1000000 in
theorem xunless_any {F : Nat → Prop} {w : World} {gm : Nat} {tag : List UInt8} {S : Xc.S} (h : Xc.Mk F w gm tag S) (hne : S.words ≠ []) (hok : Xc.Ok 20 S) (k : List UInt8) (hh : k.length ≤ 500000) :
  Calls Tryz.prog 243 #[.pointer (some ⟨gm,0,none⟩),.string ⟨k.toArray⟩] w fun e w'=>e = .returned (.tuple #[]) ∧ Xc.To F w gm tag (Xc.unless k S) w':=by
 obtain ⟨z,hz⟩ : ∃ z,[106,32] ++ k = z:=⟨_,rfl⟩
 have ez : (⟨#[106,32]⟩ : ByteArray) ++ ⟨k.toArray⟩ = ⟨z.toArray⟩:=by rw [← hz];exact app_eq [106,32] k
 have hsum : ¬ 9223372036854775807 < 2 + k.length:=by omega
 have HPOST:=Lib.hid (show Xc.put [Xc.lLw,Xc.lPop,Xc.lBnez,z] S = Xc.unless k S from by rw [← hz];rfl)
 clear hz
 have hbe : Below w.heap.size w (w.alloc (.cells #[.string ⟨#[108,119,32,116,48,32,48,32,115,48]⟩,.string ⟨#[97,100,100,105,32,115,48,32,115,48,32,52]⟩,.string ⟨#[98,110,101,122,32,116,48,32,56]⟩,.string ⟨z.toArray⟩] 9)):=(Below.refl _ _).alloc (Nat.le_refl _) _
 have CP:=Lib.hid (show Calls Tryz.prog 65 #[.pointer (some ⟨gm,0,none⟩),.slice (some ⟨w.heap.size,0,none⟩) 4 4] (w.alloc (.cells #[.string ⟨#[108,119,32,116,48,32,48,32,115,48]⟩,.string ⟨#[97,100,100,105,32,115,48,32,115,48,32,52]⟩,.string ⟨#[98,110,101,122,32,116,48,32,56]⟩,.string ⟨z.toArray⟩] 9)) fun e w'=>e = .returned (.tuple #[]) ∧ Xc.To F (w.alloc (.cells #[.string ⟨#[108,119,32,116,48,32,48,32,115,48]⟩,.string ⟨#[97,100,100,105,32,115,48,32,115,48,32,52]⟩,.string ⟨#[98,110,101,122,32,116,48,32,56]⟩,.string ⟨z.toArray⟩] 9)) gm tag (Xc.put [Xc.lLw,Xc.lPop,Xc.lBnez,z] S) w' from
  xput_any (h.kept hbe) hne hok (.slice (some ⟨w.heap.size,0,none⟩) 4 4) [Xc.lLw,Xc.lPop,Xc.lBnez,z] (rd_new [Xc.lLw,Xc.lPop,Xc.lBnez,z] (Bk.fresh w _ _) (by simp)) (by simp))
 have HBE:=Lib.hid hbe
 clear hbe h hne hok
 go_enter Tryz.func243,Tryz.ntmps243
 go_wp2_with (go_at_call 65;refine CP.out.mono ?_;rintro e w2 ⟨rfl,hto⟩)
 go_end0
 exact ⟨rfl,by rw [← HPOST.out];exact hto.after (Step.of_below HBE.out)⟩
set_option maxRecDepth 100000 in
set_option maxHeartbeats 1000000 in
theorem xleave_any {F : Nat → Prop} {w : World} {gm : Nat} {tag : List UInt8} {S : Xc.S} (h : Xc.Mk F w gm tag S) (hne : S.words ≠ []) (hok : Xc.Ok 20 S) :
  Calls Tryz.prog 185 #[.pointer (some ⟨gm,0,none⟩)] w fun e w'=>e = .returned (.tuple #[]) ∧ Xc.To F w gm tag (Xc.leave S) w':=by
 have HPOST:=Lib.hid (show Xc.put [Xc.lRa,Xc.lSp,Xc.lRet] S = Xc.leave S from rfl)
 have hbe : Below w.heap.size w (w.alloc (.cells #[.string ⟨#[108,119,32,114,97,32,48,32,115,112]⟩,.string ⟨#[97,100,100,105,32,115,112,32,115,112,32,52]⟩,.string ⟨#[114,101,116]⟩] 9)):=(Below.refl _ _).alloc (Nat.le_refl _) _
 have CP:=Lib.hid (show Calls Tryz.prog 65 #[.pointer (some ⟨gm,0,none⟩),.slice (some ⟨w.heap.size,0,none⟩) 3 3] (w.alloc (.cells #[.string ⟨#[108,119,32,114,97,32,48,32,115,112]⟩,.string ⟨#[97,100,100,105,32,115,112,32,115,112,32,52]⟩,.string ⟨#[114,101,116]⟩] 9)) fun e w'=>e = .returned (.tuple #[]) ∧ Xc.To F (w.alloc (.cells #[.string ⟨#[108,119,32,114,97,32,48,32,115,112]⟩,.string ⟨#[97,100,100,105,32,115,112,32,115,112,32,52]⟩,.string ⟨#[114,101,116]⟩] 9)) gm tag (Xc.put [Xc.lRa,Xc.lSp,Xc.lRet] S) w' from
  xput_any (h.kept hbe) hne hok (.slice (some ⟨w.heap.size,0,none⟩) 3 3) [Xc.lRa,Xc.lSp,Xc.lRet] (rd_new [Xc.lRa,Xc.lSp,Xc.lRet] (Bk.fresh w _ _) (by simp)) (by simp))
 have HBE:=Lib.hid hbe
 clear hbe h hne hok
 go_enter Tryz.func185,Tryz.ntmps185
 go_wp2_with (go_at_call 65;refine CP.out.mono ?_;rintro e w2 ⟨rfl,hto⟩)
 go_end0
 exact ⟨rfl,by rw [← HPOST.out];exact hto.after (Step.of_below HBE.out)⟩
set_option maxRecDepth 100000 in
set_option maxHeartbeats 1000000 in
theorem xhere_any {F : Nat → Prop} {w : World} {gm : Nat} {tag : List UInt8} {S : Xc.S} (h : Xc.Mk F w gm tag S) (hne : S.words ≠ []) (hok : Xc.Ok 20 S) (k : List UInt8) (hh : k.length ≤ 500000) :
  Calls Tryz.prog 241 #[.pointer (some ⟨gm,0,none⟩),.string ⟨k.toArray⟩] w fun e w'=>e = .returned (.tuple #[]) ∧ Xc.To F w gm tag (Xc.here k S) w':=by
 obtain ⟨z,hz⟩ : ∃ z,k ++ [58] = z:=⟨_,rfl⟩
 have ez : (⟨k.toArray⟩ : ByteArray) ++ ⟨#[58]⟩ = ⟨z.toArray⟩:=by rw [← hz];exact app_eq k [58]
 have hsum : ¬ 9223372036854775807 < k.length + 1:=by omega
 have HPOST:=Lib.hid (show Xc.put [z] S = Xc.here k S from by rw [← hz];rfl)
 clear hz
 have hbe : Below w.heap.size w (w.alloc (.cells #[.string ⟨z.toArray⟩] 9)):=(Below.refl _ _).alloc (Nat.le_refl _) _
 have CP:=Lib.hid (show Calls Tryz.prog 65 #[.pointer (some ⟨gm,0,none⟩),.slice (some ⟨w.heap.size,0,none⟩) 1 1] (w.alloc (.cells #[.string ⟨z.toArray⟩] 9)) fun e w'=>e = .returned (.tuple #[]) ∧ Xc.To F (w.alloc (.cells #[.string ⟨z.toArray⟩] 9)) gm tag (Xc.put [z] S) w' from
  xput_any (h.kept hbe) hne hok (.slice (some ⟨w.heap.size,0,none⟩) 1 1) [z] (rd_new [z] (Bk.fresh w _ _) (by simp)) (by simp))
 have HBE:=Lib.hid hbe
 clear hbe h hne hok
 go_enter Tryz.func241,Tryz.ntmps241
 go_wp2_with (go_at_call 65;refine CP.out.mono ?_;rintro e w2 ⟨rfl,hto⟩)
 go_end0
 exact ⟨rfl,by rw [← HPOST.out];exact hto.after (Step.of_below HBE.out)⟩
theorem Xc.cells_at (S : Xc.S) (tag : List UInt8) (vw vo : Value) : (Xc.cells S tag vw vo)[0]? = some (.string ⟨S.s.toArray⟩) ∧ (Xc.cells S tag vw vo)[1]? = some (.string ⟨tag.toArray⟩) ∧ (Xc.cells S tag vw vo)[2]? = some vw ∧ (Xc.cells S tag vw vo)[3]? = some (.bool S.within) ∧
  (Xc.cells S tag vw vo)[4]? = some (.string ⟨S.name.toArray⟩) ∧ (Xc.cells S tag vw vo)[5]? = some vo ∧ (Xc.cells S tag vw vo)[6]? = some (.int .i64 (S.made : Int)) ∧ (Xc.cells S tag vw vo)[7]? = some (.string ⟨S.number.toArray⟩):=⟨rfl,rfl,rfl,rfl,rfl,rfl,rfl,rfl⟩
structure Xc.Seen (W : World) (gm : Nat) (tag : List UInt8) (S : Xc.S) : Prop where
 c0 : W.cell? ⟨gm,0,none⟩ = some (.string ⟨S.s.toArray⟩)
 c1 : W.cell? ⟨gm,1,none⟩ = some (.string ⟨tag.toArray⟩)
 c3 : W.cell? ⟨gm,3,none⟩ = some (.bool S.within)
 c4 : W.cell? ⟨gm,4,none⟩ = some (.string ⟨S.name.toArray⟩)
 c6 : W.cell? ⟨gm,6,none⟩ = some (.int .i64 (S.made : Int))
 c7 : W.cell? ⟨gm,7,none⟩ = some (.string ⟨S.number.toArray⟩)
 f : ∀ i,W.frozen? ⟨gm,i,none⟩ = false
 lt : gm < W.heap.size
theorem Xc.Mk.seen {F : Nat → Prop} {W : World} {gm : Nat} {tag : List UInt8} {S : Xc.S} (h : Xc.Mk F W gm tag S) : Xc.Seen W gm tag S:=by
 obtain ⟨vw,vo,cs,h1,_⟩:=h.obj
 obtain ⟨e0,e1,_,e3,e4,_,e6,e7⟩:=Xc.cells_at S tag vw vo
 exact ⟨(h1.cell 0).trans e0,(h1.cell 1).trans e1,(h1.cell 3).trans e3,(h1.cell 4).trans e4,(h1.cell 6).trans e6,(h1.cell 7).trans e7,fun i=>h1.free i,h1.lt⟩
def Xc.Tb (F : Nat → Prop) (w : World) : Prop:=L6.Tab w ∧ ¬ F 1
theorem Xc.tab_fr {F : Nat → Prop} {w w' : World} (h : L6.Tab w) (hf : Fr F w w') (hn : ¬ F 1) : L6.Tab w':=by
 have hlt:=F8.tab_lt h
 unfold L6.Tab Lib.TabIs at *
 unfold World.var? at *
 rw [L6.tab_named] at *
 simp only [Option.bind_some] at *
 rw [hf.block _ hlt hn]
 exact h
theorem Xc.Tb.step {F F' : Nat → Prop} {w w' : World} (h : Xc.Tb F w) (hs : Step F w F' w') : Xc.Tb F' w':=
 ⟨Xc.tab_fr h.1 hs.fr h.2,fun e=>(hs.new _ e).elim h.2 (fun e=>absurd (F8.tab_lt h.1) (by omega))⟩
theorem Xc.Tb.kept {F : Nat → Prop} {w w' : World} (h : Xc.Tb F w) (hb : Below w.heap.size w w') : Xc.Tb F w':=h.step (Step.of_below hb)
theorem Xc.lab_app (tag : List UInt8) (n : Nat) : (⟨tag.toArray⟩ : ByteArray) ++ ⟨(Lib.decDigits n).toArray⟩ = ⟨(Xc.lab tag n).toArray⟩:=app_eq tag (Lib.decDigits n)
set_option maxRecDepth 100000 in
set_option maxHeartbeats 1000000 in
theorem xlabel_any {F : Nat → Prop} {w : World} {gm : Nat} {tag : List UInt8} {S : Xc.S} (h : Xc.Mk F w gm tag S) (hok : Xc.Ok 20 S) (ht : tag.length ≤ 31) (hT0 : Xc.Tb F w) :
  Calls Tryz.prog 240 #[.pointer (some ⟨gm,0,none⟩)] w fun e w'=>e = .returned (.string ⟨(Xc.lab tag S.made).toArray⟩) ∧ Xc.To F w gm tag (Xc.more S) w':=by
 have hT : L6.Tab (w.setCell ⟨gm,6,none⟩ (.int .i64 ((S.made : Int) + 1))):=Xc.tab_fr hT0.1 (Fr.setCell w gm 6 _ h.gm) hT0.2
 have hto:=h.set 6 (.int .i64 ((S.made : Int) + 1)) (S':=Xc.more S) rfl rfl (fun vw vo=>by simp [Xc.cells,Xc.more])
 have hsn:=h.seen
 have hm:=hok.made
 obtain ⟨F1,hm1,hs1⟩:=hto
 have hsn1:=hm1.seen
 obtain ⟨s,ws,wi,nm,op,sm,nb⟩:=S
 dsimp only [Xc.more] at *
 have c6:=hsn.c6
 have f6:=hsn.f 6
 have d1:=hsn1.c1
 have d6:=hsn1.c6
 dsimp only at c6 d1 d6
 have hw1 : IntKind.i64.wrap ((sm : Int) + 1) = (sm : Int) + 1:=by rw [IntKind.wrap_i64];omega
 have hw2 : IntKind.i64.wrap (sm : Int) = (sm : Int):=by rw [IntKind.wrap_i64];omega
 have hw3 : IntKind.i64.wrap ((sm : Int) + 1 - 1) = (sm : Int):=by rw [IntKind.wrap_i64];omega
 have hlen : ¬ 9223372036854775807 < tag.length + (Lib.decDigits sm).length:=by have:=F8.dec_len sm;omega
 have hz : ∀ {W : World},Below w.heap.size (w.setCell ⟨gm,6,none⟩ (.int .i64 ((sm : Int) + 1))) W → Below (w.setCell ⟨gm,6,none⟩ (.int .i64 ((sm : Int) + 1))).heap.size (w.setCell ⟨gm,6,none⟩ (.int .i64 ((sm : Int) + 1))) W:=fun h=>by rw [show (w.setCell ⟨gm,6,none⟩ (.int .i64 ((sm : Int) + 1))).heap.size = w.heap.size by simp [World.setCell]];exact h
 have HW:=Lib.hid (fun W (hb : Below w.heap.size (w.setCell ⟨gm,6,none⟩ (.int .i64 ((sm : Int) + 1))) W)=>show W.cell? ⟨gm,1,none⟩ = some (.string ⟨tag.toArray⟩) ∧ W.cell? ⟨gm,6,none⟩ = some (.int .i64 ((sm + 1 : Nat) : Int)) from ⟨(hm1.kept (hz hb)).seen.c1,(hm1.kept (hz hb)).seen.c6⟩)
 have HTO:=Lib.hid (fun W (hb : Below w.heap.size (w.setCell ⟨gm,6,none⟩ (.int .i64 ((sm : Int) + 1))) W)=>show Xc.To F w gm tag ⟨s,ws,wi,nm,op,sm + 1,nb⟩ W from ⟨F1,hm1.kept (hz hb),hs1.trans (Step.of_below (hz hb))⟩)
 have CI:=Lib.hid (fun W (hb : Below w.heap.size (w.setCell ⟨gm,6,none⟩ (.int .i64 ((sm : Int) + 1))) W)=>litoa_any sm W (by omega) (.inr (hT.kept (hz hb))))
 clear h hok hT hT0 hm hm1 hs1 hsn hsn1 ht hz
 go_enter Tryz.func240,Tryz.ntmps240
 go_wp2_with fail
 refine Kit.wp_region_class (fun W'=>Below w.heap.size (w.setCell ⟨gm,6,none⟩ (.int .i64 ((sm : Int) + 1))) W') (by kernel_rfl) (by kernel_rfl) ((Below.refl _ _).drew) ?_
 repeat (first | go_big_quiet_skip | (refine BigFrame.wpQuiet_want (by rfl) (fun K hK=>?_);first | ((fail_if_success (fail_if_success (first | (refine BigFrame.quiet_move _ rfl ?_) | (refine BigFrame.quiet_assign _ rfl ?_))));go_big_quiet_op;refine hK _ ?_;clear hK K) | (apply Exists.intro;refine ⟨fun W' hW'=>?_,hK _ ?_⟩;(obtain ⟨k1,k6⟩:=HW.out W' hW';unfold Oper.quietAt;go_simp;(first | done | (with_reducible rfl) | (exact ⟨rfl,rfl⟩) | (first | (go_at_call 61;exact (Kit.callB (CI.out W' hW') hW' (by simp [World.setCell]))) | (refine ⟨rfl,?_⟩;(first | (go_at_call 61;exact (Kit.callB (CI.out W' hW') hW' (by simp [World.setCell]))))))));clear hK K;(try simp only [Act.put,List.getElem_toArray,List.getElem_cons_zero,List.getElem_cons_succ,List.setIfInBounds_toArray,List.set_cons_zero,List.set_cons_succ]))))
 refine wpQuiet_nil ?_
 intro W9 hW9
 go_wp2_with fail
 go_ret
 exact ⟨congrArg (fun x=>Ending.returned (.string x)) (Xc.lab_app tag sm),HTO.out _ hW9⟩
set_option maxRecDepth 100000 in
set_option maxHeartbeats 1000000 in
theorem xwait_any {F : Nat → Prop} {w : World} {gm : Nat} {tag : List UInt8} {S : Xc.S} (h : Xc.Mk F w gm tag S) (hok : Xc.Ok 20 S) (x k : List UInt8) :
  Calls Tryz.prog 242 #[.pointer (some ⟨gm,0,none⟩),.string ⟨x.toArray⟩,.string ⟨k.toArray⟩] w fun e w'=>e = .returned (.tuple #[]) ∧ Xc.To F w gm tag (Xc.wait x k S) w':=by
 obtain ⟨vw,vo,h1,h5,hw⟩:=h.wait x k
 have c5:=h1.cell 5
 obtain ⟨A,c,rfl⟩:=(Rd.of_own h5).form
 simp only [Xc.cells,List.getElem?_toArray,List.getElem?_cons_succ,List.getElem?_cons_zero] at c5
 have hal : Below w.heap.size w (w.alloc (.cells #[.string ⟨x.toArray⟩,.string ⟨k.toArray⟩] 332)):=(Below.refl _ _).alloc (Nat.le_refl _) _
 have ho:=hok.opens
 have HOW:=Lib.hid (own_kept h5 hal)
 have HSR:=Lib.hid (show Src Tryz.prog 2 135 (.slice (some ⟨w.heap.size,0,none⟩) 1 1) 1 [.string ⟨x.toArray⟩,.string ⟨k.toArray⟩] (w.alloc (.cells #[.string ⟨x.toArray⟩,.string ⟨k.toArray⟩] 332)) from
  Rd.src xort (Rd.built (Bk.fresh w _ #[.string ⟨x.toArray⟩,.string ⟨k.toArray⟩]) rfl) (by intro u hu;simp at hu;rcases hu with rfl | rfl <;> rfl))
 have HL1:=Lib.hid (show (S.opens.length + 1) * 32 ≤ 140737488355328 by omega)
 have HL2:=Lib.hid (show S.opens.length + 1 ≤ maxLen by unfold maxLen;omega)
 have HP:=Lib.hid (fun v' w1 ho hg hv=>hw _ v' w1 hal ho hg hv)
 clear h hok h1 h5 hw hal ho
 generalize S.opens.length = n at *
 generalize F8.opc S.opens = xs at *
 go_enter Tryz.func242,Tryz.ntmps242
 go_wp2_with (at_builtin;refine wpList_appendRB rfl _ _ _ _ rfl xort (by decide) 0 _ rfl n xs HOW.out _ rfl 1 [.string ⟨x.toArray⟩,.string ⟨k.toArray⟩] HSR.out HL1.out HL2.out (Nat.zero_le _) ?_;intro v' w2 ho2 hb2 hg2 hv2;obtain ⟨A2,c2,rfl⟩:=(Rd.of_own ho2).form;obtain ⟨d1,f1,hm⟩:=HP.out _ _ ho2 hg2 hv2;clear ho2 hb2 hg2 hv2)
 go_end0
 exact ⟨rfl,hm.out⟩
def Xc.ClosePost (F : Nat → Prop) (w : World) (gm : Nat) (tag : List UInt8) (S : Xc.S) (r : Option (List UInt8 × Xc.S)) (e : Ending) (w' : World) : Prop:=
 match r with
 | none=>e = .returned (.tuple #[.string ⟨#[]⟩,.bool false]) ∧ w = w'
 | some (k,S1)=>e = .returned (.tuple #[.string ⟨k.toArray⟩,.bool true]) ∧ Xc.To F w gm tag S1 w'
set_option maxRecDepth 100000 in
set_option maxHeartbeats 1000000 in
theorem xclose_any {F : Nat → Prop} {w : World} {gm : Nat} {tag : List UInt8} {S : Xc.S} (h : Xc.Mk F w gm tag S) (hok : Xc.Ok 20 S) (v : Value) (ws : List (List UInt8)) (hv : RdS w v ws) (hl : ws.length ≤ 1000000) :
  Calls Tryz.prog 244 #[.pointer (some ⟨gm,0,none⟩),v] w (Xc.ClosePost F w gm tag S (Xc.close ws S)):=by
 have ho:=hok.opens
 cases hS : S.opens with
 | nil=>
  have HP:=Lib.hid (show Xc.close ws S = none from by unfold Xc.close;rw [hS])
  obtain ⟨vw,vo,cs,h1,_,_,_,h5,_⟩:=h.obj
  rw [hS] at h5
  obtain ⟨A,c,rfl⟩:=(Rd.of_own h5).form
  have c5:=h1.cell 5
  simp only [Xc.cells,List.getElem?_toArray,List.getElem?_cons_succ,List.getElem?_cons_zero,List.length_nil] at c5
  obtain ⟨A1,d1,rfl⟩:=Rd.form hv
  clear h hok hv hl ho hS h1 h5
  go_enter Tryz.func244,Tryz.ntmps244
  go_wp2_with fail
  go_ret2
  rw [HP.out]
  exact ⟨rfl,rfl⟩
 | cons p r=>
  obtain ⟨px,pk⟩:=p
  obtain ⟨vw,gw,cap,h1,hnc,hcm,hgw,e0,e1,hto⟩:=h.pop hS
  have c5:=h1.cell 5
  have f5:=h1.free 5
  simp only [Xc.cells,List.getElem?_toArray,List.getElem?_cons_succ,List.getElem?_cons_zero] at c5
  rw [hS,List.length_cons] at ho
  have HTO:=Lib.hid hto
  have CC:=Lib.hid (fcontains_any v ws px w hv (by omega))
  have hw1 : IntKind.i64.wrap (r.length : Int) = (r.length : Int):=by rw [IntKind.wrap_i64];omega
  have hw2 : IntKind.i64.wrap ((r.length : Int) + 1 - 1) = (r.length : Int):=by rw [IntKind.wrap_i64];omega
  have hlt : ¬ ((r.length : Int) < 0):=by omega
  have hr0 : (0 : Int) ≤ (r.length : Int):=by omega
  have hr1 : (r.length : Int) < ((r.length + 1 : Nat) : Int):=by omega
  have hr2 : (r.length : Int) ≤ (cap : Int):=by omega
  obtain ⟨A1,d1,rfl⟩:=Rd.form hv
  by_cases hx : px ∈ ws
  ·have HP:=Lib.hid (show Xc.close ws S = some (pk,Xc.shut r S) from by unfold Xc.close;rw [hS];dsimp only;rw [if_pos hx])
   rw [decide_eq_true hx] at CC
   clear h hok hv hl ho hS h1 hto hx
   go_enter Tryz.func244,Tryz.ntmps244
   go_wp2_with (go_at_call 233;refine CC.out.mono ?_;rintro e w' ⟨rfl,rfl⟩)
   go_ret2
   rw [HP.out]
   exact ⟨rfl,HTO.out⟩
  ·have HP:=Lib.hid (show Xc.close ws S = none from by unfold Xc.close;rw [hS];dsimp only;rw [if_neg hx])
   rw [decide_eq_false hx] at CC
   clear h hok hv hl ho hS h1 hto hx
   go_enter Tryz.func244,Tryz.ntmps244
   go_wp2_with (go_at_call 233;refine CC.out.mono ?_;rintro e w' ⟨rfl,rfl⟩)
   go_ret2
   rw [HP.out]
   exact ⟨rfl,rfl⟩
def Xc.BeginsPost (F : Nat → Prop) (w : World) (gm : Nat) (tag : List UInt8) (r : Option Xc.R) (e : Ending) (w' : World) : Prop:=
 match r with
 | none=>e = .returned (.tuple #[.bool false,.int .i64 0]) ∧ w = w'
 | some (.bad n)=>e = .returned (.tuple #[.bool true,.int .i64 (n : Int)]) ∧ w = w'
 | some (.ok S1)=>e = .returned (.tuple #[.bool true,.int .i64 0]) ∧ Xc.To F w gm tag S1 w'
 | some .stuck=>False
def Xc.EndsPost (F : Nat → Prop) (w : World) (gm : Nat) (tag : List UInt8) (r : Option (Option Xc.S)) (e : Ending) (w' : World) : Prop:=
 match r with
 | none=>e = .returned (.tuple #[.bool false,.bool false]) ∧ w = w'
 | some none=>e = .returned (.tuple #[.bool true,.bool false]) ∧ Below w.heap.size w w'
 | some (some S1)=>e = .returned (.tuple #[.bool true,.bool true]) ∧ Xc.To F w gm tag S1 w'
set_option maxRecDepth 100000 in
set_option maxHeartbeats 2000000 in
theorem xbegins_any {F : Nat → Prop} {w : World} {gm : Nat} {tag : List UInt8} {S : Xc.S} (h : Xc.Mk F w gm tag S) (hne : S.words ≠ []) (hok : Xc.Ok 10 S) (hT : Xc.Tb F w) (ht : tag.length ≤ 31) (c : List UInt8) :
  Calls Tryz.prog 182 #[.pointer (some ⟨gm,0,none⟩),.string ⟨c.toArray⟩] w (Xc.BeginsPost F w gm tag (Xc.begins tag c S)):=by
 by_cases hBegin : c = [66,69,71,73,78]
 ·subst hBegin
  have HP:=Lib.hid (show Xc.begins tag [66,69,71,73,78] S = some (.ok (Xc.wait [66,69,71,73,78] (Xc.lab tag S.made) (Xc.here (Xc.lab tag S.made) (Xc.more S)))) from by show Xc.begins tag Xc.tBegin S = _;unfold Xc.begins;rw [if_pos rfl];rfl)
  have hlk : (Xc.lab tag S.made).length ≤ 1000:=by
   have:=Xc.dec_len10 6 S.made (by have:=hok.made;omega)
   unfold Xc.lab
   rw [List.length_append]
   omega
  have CL:=Lib.hid (xlabel_any h (hok.mono (by omega)) ht hT)
  have HNE:=Lib.hid hne
  have HOK:=Lib.hid hok
  have HLK:=Lib.hid hlk
  clear h hne hok hT ht hlk
  generalize hlab : Xc.lab tag S.made = lb at *
  go_enter Tryz.func182,Tryz.ntmps182
  go_wp2_with (go_at_call 240;refine CL.out.mono ?_;rintro e w1 ⟨rfl,F1,hm1,st1⟩)
  have C2:=Lib.hid (xhere_any hm1 HNE.out (HOK.out.more.mono (by omega)) lb (Nat.le_trans HLK.out (by decide)))
  go_wp2_with (go_at_call 241;refine C2.out.mono ?_;rintro e w2 ⟨rfl,F2,hm2,st2⟩)
  have C3:=Lib.hid (xwait_any hm2 ((HOK.out.more.put _ (by have:=HLK.out;rw [Xc.lsum_cons,Xc.lsum_nil,List.length_append,List.length_cons,List.length_nil];omega)).mono (by omega)) [66,69,71,73,78] lb)
  go_wp2_with (go_at_call 242;refine C3.out.mono ?_;rintro e w3 ⟨rfl,F3,hm3,st3⟩)
  go_wp2_with fail
  go_ret2
  rw [HP.out]
  exact ⟨rfl,F3,hm3,(st1.trans st2).trans st3⟩
 by_cases hWhile : c = [87,72,73,76,69]
 ·subst hWhile
  cases hS : S.opens with
  | nil=>
   have HP:=Lib.hid (show Xc.begins tag [87,72,73,76,69] S = some (.bad 44) from by show Xc.begins tag Xc.tWhile S = _;unfold Xc.begins;rw [if_neg (by decide),if_pos ⟨rfl,by rw [hS];intro e;cases e⟩])
   obtain ⟨vw,vo,cs,h1,_,_,_,h5,_⟩:=h.obj
   rw [hS] at h5
   obtain ⟨A,c,rfl⟩:=(Rd.of_own h5).form
   have c5:=h1.cell 5
   simp only [Xc.cells,List.getElem?_toArray,List.getElem?_cons_succ,List.getElem?_cons_zero,List.length_nil] at c5
   clear h hne hok hT ht hS h1 h5
   go_enter Tryz.func182,Tryz.ntmps182
   go_wp2_with fail
   go_ret2
   rw [HP.out]
   exact ⟨rfl,rfl⟩
  | cons p r=>
   obtain ⟨px,pk⟩:=p
   obtain ⟨vw,gw,cap,h1,hnc,hcm,hgw,e0,e1,htop⟩:=h.pop hS
   clear htop e1
   have c5:=h1.cell 5
   simp only [Xc.cells,List.getElem?_toArray,List.getElem?_cons_succ,List.getElem?_cons_zero] at c5
   have ho:=hok.opens
   rw [hS,List.length_cons] at ho
   have hw1 : IntKind.i64.wrap (r.length : Int) = (r.length : Int):=by rw [IntKind.wrap_i64];omega
   have hw2 : IntKind.i64.wrap ((r.length : Int) + 1 - 1) = (r.length : Int):=by rw [IntKind.wrap_i64];omega
   have hr0 : (0 : Int) ≤ (r.length : Int):=by omega
   have hr1 : (r.length : Int) < ((r.length + 1 : Nat) : Int):=by omega
   have hrz : (((r.length + 1 : Nat) : Int) == 0) = false:=by rw [beq_eq_false_iff_ne];omega
   have hrz' : ((r.length : Int) + 1 == 0) = false:=by rw [beq_eq_false_iff_ne];omega
   by_cases hx : px = [66,69,71,73,78]
   ·have ex : (!px == [66,69,71,73,78]) = false:=by rw [hx];decide
    have HP:=Lib.hid (show Xc.begins tag [87,72,73,76,69] S = some (.ok (Xc.wait [87,72,73,76,69] (Xc.lab tag S.made) (Xc.unless (Xc.lab tag S.made) (Xc.more S)))) from by show Xc.begins tag Xc.tWhile S = _;unfold Xc.begins;rw [if_neg (by decide),if_neg (by rw [hS];rintro ⟨_,h⟩;exact h (congrArg some hx)),if_pos (.inl rfl)];rfl)
    have hlk : (Xc.lab tag S.made).length ≤ 1000:=by
     have:=Xc.dec_len10 6 S.made (by have:=hok.made;omega)
     unfold Xc.lab
     rw [List.length_append]
     omega
    have CL:=Lib.hid (xlabel_any h (hok.mono (by omega)) ht hT)
    have HNE:=Lib.hid hne
    have HOK:=Lib.hid hok
    have HLK:=Lib.hid hlk
    clear hS h1 ho hx
    clear h hne hok hT ht hlk
    generalize hlab : Xc.lab tag S.made = lb at *
    go_enter Tryz.func182,Tryz.ntmps182
    go_wp2_with (go_at_call 240;refine CL.out.mono ?_;rintro e w1 ⟨rfl,F1,hm1,st1⟩)
    have C2:=Lib.hid (xunless_any hm1 HNE.out (HOK.out.more.mono (by omega)) lb (Nat.le_trans HLK.out (by decide)))
    go_wp2_with (go_at_call 243;refine C2.out.mono ?_;rintro e w2 ⟨rfl,F2,hm2,st2⟩)
    have C3:=Lib.hid (xwait_any hm2 ((HOK.out.more.put _ (by have:=HLK.out;simp only [Xc.lsum_cons,Xc.lsum_nil,List.length_append,Xc.lLw,Xc.lPop,Xc.lBnez,Xc.lJ,List.length_cons,List.length_nil];omega)).mono (by omega)) [87,72,73,76,69] lb)
    go_wp2_with (go_at_call 242;refine C3.out.mono ?_;rintro e w3 ⟨rfl,F3,hm3,st3⟩)
    go_wp2_with fail
    go_ret2
    rw [HP.out]
    exact ⟨rfl,F3,hm3,(st1.trans st2).trans st3⟩
   ·have HP:=Lib.hid (show Xc.begins tag [87,72,73,76,69] S = some (.bad 44) from by show Xc.begins tag Xc.tWhile S = _;unfold Xc.begins;rw [if_neg (by decide),if_pos ⟨rfl,by rw [hS];intro e;injection e with e;exact hx e⟩])
    have ex : (!px == [66,69,71,73,78]) = true:=by simpa using hx
    clear h hne hok hT ht hS h1 ho hx
    go_enter Tryz.func182,Tryz.ntmps182
    go_wp2_with fail
    go_ret2
    rw [HP.out]
    exact ⟨rfl,rfl⟩
 by_cases hIf : c = [73,70]
 ·subst hIf
  have HP:=Lib.hid (show Xc.begins tag [73,70] S = some (.ok (Xc.wait [73,70] (Xc.lab tag S.made) (Xc.unless (Xc.lab tag S.made) (Xc.more S)))) from by show Xc.begins tag Xc.tIf S = _;unfold Xc.begins;rw [if_neg (by decide),if_neg (by rintro ⟨h,_⟩;exact absurd h (by decide)),if_pos (.inr rfl)];rfl)
  have hlk : (Xc.lab tag S.made).length ≤ 1000:=by
   have:=Xc.dec_len10 6 S.made (by have:=hok.made;omega)
   unfold Xc.lab
   rw [List.length_append]
   omega
  have CL:=Lib.hid (xlabel_any h (hok.mono (by omega)) ht hT)
  have HNE:=Lib.hid hne
  have HOK:=Lib.hid hok
  have HLK:=Lib.hid hlk
  clear h hne hok hT ht hlk
  generalize hlab : Xc.lab tag S.made = lb at *
  go_enter Tryz.func182,Tryz.ntmps182
  go_wp2_with (go_at_call 240;refine CL.out.mono ?_;rintro e w1 ⟨rfl,F1,hm1,st1⟩)
  have C2:=Lib.hid (xunless_any hm1 HNE.out (HOK.out.more.mono (by omega)) lb (Nat.le_trans HLK.out (by decide)))
  go_wp2_with (go_at_call 243;refine C2.out.mono ?_;rintro e w2 ⟨rfl,F2,hm2,st2⟩)
  have C3:=Lib.hid (xwait_any hm2 ((HOK.out.more.put _ (by have:=HLK.out;simp only [Xc.lsum_cons,Xc.lsum_nil,List.length_append,Xc.lLw,Xc.lPop,Xc.lBnez,Xc.lJ,List.length_cons,List.length_nil];omega)).mono (by omega)) [73,70] lb)
  go_wp2_with (go_at_call 242;refine C3.out.mono ?_;rintro e w3 ⟨rfl,F3,hm3,st3⟩)
  go_wp2_with fail
  go_ret2
  rw [HP.out]
  exact ⟨rfl,F3,hm3,(st1.trans st2).trans st3⟩
 have HP:=Lib.hid (show Xc.begins tag c S = none from by unfold Xc.begins;rw [if_neg (show ¬ c = Xc.tBegin from hBegin),if_neg (fun h=>hWhile h.1),if_neg (fun h=>h.elim hWhile hIf)])
 have eBegin : (c == [66,69,71,73,78]) = false:=by simpa using hBegin
 have eWhile : (c == [87,72,73,76,69]) = false:=by simpa using hWhile
 have eIf : (c == [73,70]) = false:=by simpa using hIf
 clear h hne hok hT ht hBegin hWhile hIf
 go_enter Tryz.func182,Tryz.ntmps182
 go_wp2_with fail
 go_ret2
 rw [HP.out]
 exact ⟨rfl,rfl⟩
set_option maxRecDepth 100000 in
set_option maxHeartbeats 2000000 in
theorem xends_Else {F : Nat → Prop} {w : World} {gm : Nat} {tag : List UInt8} {S : Xc.S} (h : Xc.Mk F w gm tag S) (hne : S.words ≠ []) (hok : Xc.Ok 10 S) (hT : Xc.Tb F w) (ht : tag.length ≤ 31) :
  Calls Tryz.prog 183 #[.pointer (some ⟨gm,0,none⟩),.string ⟨#[69,76,83,69]⟩] w (Xc.EndsPost F w gm tag (Xc.ends tag [69,76,83,69] S)):=by
 have hbe : Below w.heap.size w (w.alloc (.cells #[.string ⟨#[73,70]⟩] 9)):=(Below.refl _ _).alloc (Nat.le_refl _) _
 have CC:=Lib.hid (show Calls Tryz.prog 244 #[.pointer (some ⟨gm,0,none⟩),.slice (some ⟨w.heap.size,0,none⟩) 1 1] (w.alloc (.cells #[.string ⟨#[73,70]⟩] 9)) (Xc.ClosePost F (w.alloc (.cells #[.string ⟨#[73,70]⟩] 9)) gm tag S (Xc.close [Xc.tIf] S)) from
  xclose_any (h.kept hbe) (hok.mono (by omega)) (.slice (some ⟨w.heap.size,0,none⟩) 1 1) [Xc.tIf] (rd_new [Xc.tIf] (Bk.fresh w _ _) (by simp)) (by simp))
 have HBE:=Lib.hid hbe
 have HT1:=Lib.hid (hT.kept hbe)
 have HNE:=Lib.hid hne
 cases hc : Xc.close [Xc.tIf] S with
 | none=>
  have HP:=Lib.hid (show Xc.ends tag [69,76,83,69] S = some none from by show Xc.ends tag Xc.tElse S = _;unfold Xc.ends;rw [if_pos rfl,hc] <;> rfl)
  rw [hc] at CC
  clear h hne hok hT ht hc hbe
  go_enter Tryz.func183,Tryz.ntmps183
  go_wp2_with (go_at_call 244;refine CC.out.mono ?_)
  rintro e w2 ⟨rfl,rfl⟩
  go_wp2_with fail
  go_ret2
  rw [HP.out]
  exact ⟨rfl,HBE.out⟩
 | some p=>
  obtain ⟨k,S1⟩:=p
  obtain ⟨hok1,hkl⟩:=hok.close hc
  have HNE1:=Lib.hid (show S1.words ≠ [] from by obtain ⟨_,r,_,_,e⟩:=Xc.close_some hc;rw [e];exact hne)
  have HOK1:=Lib.hid hok1
  have HKL:=Lib.hid hkl
  have HP:=Lib.hid (show Xc.ends tag [69,76,83,69] S = some (some (Xc.wait [69,76,83,69] (Xc.lab tag S1.made) (Xc.put [Xc.lJ ++ Xc.lab tag S1.made,k ++ [58]] (Xc.more S1)))) from by show Xc.ends tag Xc.tElse S = _;unfold Xc.ends;rw [if_pos rfl,hc] <;> rfl)
  have hlk : (Xc.lab tag S1.made).length ≤ 1000:=by
   have:=Xc.dec_len10 6 S1.made (by have:=hok1.made;omega)
   unfold Xc.lab
   rw [List.length_append]
   omega
  have HLK:=Lib.hid hlk
  have HTL:=Lib.hid ht
  rw [hc] at CC
  clear h hne hok hok1 hkl hT hc hbe hlk ht
  go_enter Tryz.func183,Tryz.ntmps183
  go_wp2_with (go_at_call 244;refine CC.out.mono ?_)
  rintro e w2 ⟨rfl,F2,hm2,st2⟩
  have HT2:=Lib.hid (HT1.out.step st2)
  have CL:=Lib.hid (xlabel_any hm2 (HOK1.out.mono (by omega)) HTL.out HT2.out)
  generalize hlab : Xc.lab tag S1.made = lb at *
  go_wp2_with (go_at_call 240;refine CL.out.mono ?_)
  rintro e w3 ⟨rfl,F3,hm3,st3⟩
  obtain ⟨z1,hz1⟩ : ∃ z,[106,32] ++ lb = z:=⟨_,rfl⟩
  have ez1 : (⟨#[106,32]⟩ : ByteArray) ++ ⟨lb.toArray⟩ = ⟨z1.toArray⟩:=by rw [← hz1];exact app_eq [106,32] lb
  have hsum1 : ¬ 9223372036854775807 < 2 + lb.length:=by have:=HLK.out;omega
  have HZL1:=Lib.hid (show z1.length ≤ 2000 from by rw [← hz1,List.length_append];have:=HLK.out;simp only [List.length_cons,List.length_nil];omega)
  obtain ⟨z2,hz2⟩ : ∃ z,k ++ [58] = z:=⟨_,rfl⟩
  have ez2 : (⟨k.toArray⟩ : ByteArray) ++ ⟨#[58]⟩ = ⟨z2.toArray⟩:=by rw [← hz2];exact app_eq k [58]
  have hsum2 : ¬ 9223372036854775807 < k.length + 1:=by have:=HKL.out;omega
  have HZL2:=Lib.hid (show z2.length ≤ 2000 from by rw [← hz2,List.length_append];have:=HKL.out;simp only [List.length_cons,List.length_nil];omega)
  have HPZ:=Lib.hid (show Xc.put [Xc.lJ ++ lb,k ++ [58]] (Xc.more S1) = Xc.put [z1,z2] (Xc.more S1) from by rw [← hz1,← hz2];rfl)
  clear hz1 hz2 hlab
  have hbe4 : Below w3.heap.size w3 (w3.alloc (.cells #[.string ⟨z1.toArray⟩,.string ⟨z2.toArray⟩] 9)):=(Below.refl _ _).alloc (Nat.le_refl _) _
  have C4:=Lib.hid (show Calls Tryz.prog 65 #[.pointer (some ⟨gm,0,none⟩),.slice (some ⟨w3.heap.size,0,none⟩) 2 2] (w3.alloc (.cells #[.string ⟨z1.toArray⟩,.string ⟨z2.toArray⟩] 9)) fun e w'=>e = .returned (.tuple #[]) ∧ Xc.To F3 (w3.alloc (.cells #[.string ⟨z1.toArray⟩,.string ⟨z2.toArray⟩] 9)) gm tag (Xc.put [z1,z2] (Xc.more S1)) w' from
   xput_any (hm3.kept hbe4) HNE1.out (HOK1.out.more.mono (by omega)) (.slice (some ⟨w3.heap.size,0,none⟩) 2 2) [z1,z2] (rd_new [z1,z2] (Bk.fresh w3 _ _) (by simp)) (by simp))
  have HBE4:=Lib.hid hbe4
  clear hbe4
  go_wp2_with (go_at_call 65;refine C4.out.mono ?_)
  rintro e w4 ⟨rfl,F4,hm4,st4⟩
  have C5:=Lib.hid (xwait_any hm4 ((HOK1.out.more.put _ (by have:=HZL1.out;have:=HZL2.out;rw [Xc.lsum_cons,Xc.lsum_cons,Xc.lsum_nil];omega)).mono (by omega)) [69,76,83,69] lb)
  go_wp2_with (go_at_call 242;refine C5.out.mono ?_)
  rintro e w5 ⟨rfl,F5,hm5,st5⟩
  go_wp2_with fail
  go_ret2
  rw [HP.out,HPZ.out]
  exact ⟨rfl,F5,hm5,(((Step.of_below HBE.out).trans st2).trans st3).trans (((Step.of_below HBE4.out).trans st4).trans st5)⟩
set_option maxRecDepth 100000 in
set_option maxHeartbeats 2000000 in
theorem xends_Then {F : Nat → Prop} {w : World} {gm : Nat} {tag : List UInt8} {S : Xc.S} (h : Xc.Mk F w gm tag S) (hne : S.words ≠ []) (hok : Xc.Ok 10 S) (hT : Xc.Tb F w) (ht : tag.length ≤ 31) :
  Calls Tryz.prog 183 #[.pointer (some ⟨gm,0,none⟩),.string ⟨#[84,72,69,78]⟩] w (Xc.EndsPost F w gm tag (Xc.ends tag [84,72,69,78] S)):=by
 have hbe : Below w.heap.size w (w.alloc (.cells #[.string ⟨#[73,70]⟩,.string ⟨#[69,76,83,69]⟩] 9)):=(Below.refl _ _).alloc (Nat.le_refl _) _
 have CC:=Lib.hid (show Calls Tryz.prog 244 #[.pointer (some ⟨gm,0,none⟩),.slice (some ⟨w.heap.size,0,none⟩) 2 2] (w.alloc (.cells #[.string ⟨#[73,70]⟩,.string ⟨#[69,76,83,69]⟩] 9)) (Xc.ClosePost F (w.alloc (.cells #[.string ⟨#[73,70]⟩,.string ⟨#[69,76,83,69]⟩] 9)) gm tag S (Xc.close [Xc.tIf,Xc.tElse] S)) from
  xclose_any (h.kept hbe) (hok.mono (by omega)) (.slice (some ⟨w.heap.size,0,none⟩) 2 2) [Xc.tIf,Xc.tElse] (rd_new [Xc.tIf,Xc.tElse] (Bk.fresh w _ _) (by simp)) (by simp))
 have HBE:=Lib.hid hbe
 have HT1:=Lib.hid (hT.kept hbe)
 have HNE:=Lib.hid hne
 cases hc : Xc.close [Xc.tIf,Xc.tElse] S with
 | none=>
  have HP:=Lib.hid (show Xc.ends tag [84,72,69,78] S = some none from by show Xc.ends tag Xc.tThen S = _;unfold Xc.ends;rw [if_neg (by decide),if_pos rfl,hc] <;> rfl)
  rw [hc] at CC
  clear h hne hok hT ht hc hbe
  go_enter Tryz.func183,Tryz.ntmps183
  go_wp2_with (go_at_call 244;refine CC.out.mono ?_)
  rintro e w2 ⟨rfl,rfl⟩
  go_wp2_with fail
  go_ret2
  rw [HP.out]
  exact ⟨rfl,HBE.out⟩
 | some p=>
  obtain ⟨k,S1⟩:=p
  obtain ⟨hok1,hkl⟩:=hok.close hc
  have HNE1:=Lib.hid (show S1.words ≠ [] from by obtain ⟨_,r,_,_,e⟩:=Xc.close_some hc;rw [e];exact hne)
  have HOK1:=Lib.hid hok1
  have HKL:=Lib.hid hkl
  have HP:=Lib.hid (show Xc.ends tag [84,72,69,78] S = some (some (Xc.here k S1)) from by show Xc.ends tag Xc.tThen S = _;unfold Xc.ends;rw [if_neg (by decide),if_pos rfl,hc] <;> rfl)
  rw [hc] at CC
  clear h hne hok hok1 hkl hT hc hbe ht
  go_enter Tryz.func183,Tryz.ntmps183
  go_wp2_with (go_at_call 244;refine CC.out.mono ?_)
  rintro e w2 ⟨rfl,F2,hm2,st2⟩
  have HT2:=Lib.hid (HT1.out.step st2)
  have C3:=Lib.hid (xhere_any hm2 HNE1.out (HOK1.out.mono (by omega)) k (Nat.le_trans HKL.out (by decide)))
  go_wp2_with (go_at_call 241;refine C3.out.mono ?_)
  rintro e w3 ⟨rfl,F3,hm3,st3⟩
  go_wp2_with fail
  go_ret2
  rw [HP.out]
  exact ⟨rfl,F3,hm3,(Step.of_below HBE.out).trans (st2.trans st3)⟩
set_option maxRecDepth 100000 in
set_option maxHeartbeats 2000000 in
theorem xends_Again {F : Nat → Prop} {w : World} {gm : Nat} {tag : List UInt8} {S : Xc.S} (h : Xc.Mk F w gm tag S) (hne : S.words ≠ []) (hok : Xc.Ok 10 S) (hT : Xc.Tb F w) (ht : tag.length ≤ 31) :
  Calls Tryz.prog 183 #[.pointer (some ⟨gm,0,none⟩),.string ⟨#[65,71,65,73,78]⟩] w (Xc.EndsPost F w gm tag (Xc.ends tag [65,71,65,73,78] S)):=by
 have hbe : Below w.heap.size w (w.alloc (.cells #[.string ⟨#[66,69,71,73,78]⟩] 9)):=(Below.refl _ _).alloc (Nat.le_refl _) _
 have CC:=Lib.hid (show Calls Tryz.prog 244 #[.pointer (some ⟨gm,0,none⟩),.slice (some ⟨w.heap.size,0,none⟩) 1 1] (w.alloc (.cells #[.string ⟨#[66,69,71,73,78]⟩] 9)) (Xc.ClosePost F (w.alloc (.cells #[.string ⟨#[66,69,71,73,78]⟩] 9)) gm tag S (Xc.close [Xc.tBegin] S)) from
  xclose_any (h.kept hbe) (hok.mono (by omega)) (.slice (some ⟨w.heap.size,0,none⟩) 1 1) [Xc.tBegin] (rd_new [Xc.tBegin] (Bk.fresh w _ _) (by simp)) (by simp))
 have HBE:=Lib.hid hbe
 have HT1:=Lib.hid (hT.kept hbe)
 have HNE:=Lib.hid hne
 cases hc : Xc.close [Xc.tBegin] S with
 | none=>
  have HP:=Lib.hid (show Xc.ends tag [65,71,65,73,78] S = some none from by show Xc.ends tag Xc.tAgain S = _;unfold Xc.ends;rw [if_neg (by decide),if_neg (by decide),if_pos rfl,hc] <;> rfl)
  rw [hc] at CC
  clear h hne hok hT ht hc hbe
  go_enter Tryz.func183,Tryz.ntmps183
  go_wp2_with (go_at_call 244;refine CC.out.mono ?_)
  rintro e w2 ⟨rfl,rfl⟩
  go_wp2_with fail
  go_ret2
  rw [HP.out]
  exact ⟨rfl,HBE.out⟩
 | some p=>
  obtain ⟨k,S1⟩:=p
  obtain ⟨hok1,hkl⟩:=hok.close hc
  have HNE1:=Lib.hid (show S1.words ≠ [] from by obtain ⟨_,r,_,_,e⟩:=Xc.close_some hc;rw [e];exact hne)
  have HOK1:=Lib.hid hok1
  have HKL:=Lib.hid hkl
  have HP:=Lib.hid (show Xc.ends tag [65,71,65,73,78] S = some (some (Xc.put [Xc.lJ ++ k] S1)) from by show Xc.ends tag Xc.tAgain S = _;unfold Xc.ends;rw [if_neg (by decide),if_neg (by decide),if_pos rfl,hc] <;> rfl)
  rw [hc] at CC
  clear h hne hok hok1 hkl hT hc hbe ht
  go_enter Tryz.func183,Tryz.ntmps183
  go_wp2_with (go_at_call 244;refine CC.out.mono ?_)
  rintro e w2 ⟨rfl,F2,hm2,st2⟩
  have HT2:=Lib.hid (HT1.out.step st2)
  obtain ⟨z1,hz1⟩ : ∃ z,[106,32] ++ k = z:=⟨_,rfl⟩
  have ez1 : (⟨#[106,32]⟩ : ByteArray) ++ ⟨k.toArray⟩ = ⟨z1.toArray⟩:=by rw [← hz1];exact app_eq [106,32] k
  have hsum1 : ¬ 9223372036854775807 < 2 + k.length:=by have:=HKL.out;omega
  have HZL1:=Lib.hid (show z1.length ≤ 2000 from by rw [← hz1,List.length_append];have:=HKL.out;simp only [List.length_cons,List.length_nil];omega)
  have HPZ:=Lib.hid (show Xc.put [Xc.lJ ++ k] S1 = Xc.put [z1] S1 from by rw [← hz1];rfl)
  clear hz1
  have hbe3 : Below w2.heap.size w2 (w2.alloc (.cells #[.string ⟨z1.toArray⟩] 9)):=(Below.refl _ _).alloc (Nat.le_refl _) _
  have C3:=Lib.hid (show Calls Tryz.prog 65 #[.pointer (some ⟨gm,0,none⟩),.slice (some ⟨w2.heap.size,0,none⟩) 1 1] (w2.alloc (.cells #[.string ⟨z1.toArray⟩] 9)) fun e w'=>e = .returned (.tuple #[]) ∧ Xc.To F2 (w2.alloc (.cells #[.string ⟨z1.toArray⟩] 9)) gm tag (Xc.put [z1] (S1)) w' from
   xput_any (hm2.kept hbe3) HNE1.out (HOK1.out.mono (by omega)) (.slice (some ⟨w2.heap.size,0,none⟩) 1 1) [z1] (rd_new [z1] (Bk.fresh w2 _ _) (by simp)) (by simp))
  have HBE3:=Lib.hid hbe3
  clear hbe3
  go_wp2_with (go_at_call 65;refine C3.out.mono ?_)
  rintro e w3 ⟨rfl,F3,hm3,st3⟩
  go_wp2_with fail
  go_ret2
  rw [HP.out,HPZ.out]
  exact ⟨rfl,F3,hm3,((Step.of_below HBE.out).trans st2).trans ((Step.of_below HBE3.out).trans st3)⟩
set_option maxRecDepth 100000 in
set_option maxHeartbeats 2000000 in
theorem xends_Until {F : Nat → Prop} {w : World} {gm : Nat} {tag : List UInt8} {S : Xc.S} (h : Xc.Mk F w gm tag S) (hne : S.words ≠ []) (hok : Xc.Ok 10 S) (hT : Xc.Tb F w) (ht : tag.length ≤ 31) :
  Calls Tryz.prog 183 #[.pointer (some ⟨gm,0,none⟩),.string ⟨#[85,78,84,73,76]⟩] w (Xc.EndsPost F w gm tag (Xc.ends tag [85,78,84,73,76] S)):=by
 have hbe : Below w.heap.size w (w.alloc (.cells #[.string ⟨#[66,69,71,73,78]⟩] 9)):=(Below.refl _ _).alloc (Nat.le_refl _) _
 have CC:=Lib.hid (show Calls Tryz.prog 244 #[.pointer (some ⟨gm,0,none⟩),.slice (some ⟨w.heap.size,0,none⟩) 1 1] (w.alloc (.cells #[.string ⟨#[66,69,71,73,78]⟩] 9)) (Xc.ClosePost F (w.alloc (.cells #[.string ⟨#[66,69,71,73,78]⟩] 9)) gm tag S (Xc.close [Xc.tBegin] S)) from
  xclose_any (h.kept hbe) (hok.mono (by omega)) (.slice (some ⟨w.heap.size,0,none⟩) 1 1) [Xc.tBegin] (rd_new [Xc.tBegin] (Bk.fresh w _ _) (by simp)) (by simp))
 have HBE:=Lib.hid hbe
 have HT1:=Lib.hid (hT.kept hbe)
 have HNE:=Lib.hid hne
 cases hc : Xc.close [Xc.tBegin] S with
 | none=>
  have HP:=Lib.hid (show Xc.ends tag [85,78,84,73,76] S = some none from by show Xc.ends tag Xc.tUntil S = _;unfold Xc.ends;rw [if_neg (by decide),if_neg (by decide),if_neg (by decide),if_pos rfl,hc] <;> rfl)
  rw [hc] at CC
  clear h hne hok hT ht hc hbe
  go_enter Tryz.func183,Tryz.ntmps183
  go_wp2_with (go_at_call 244;refine CC.out.mono ?_)
  rintro e w2 ⟨rfl,rfl⟩
  go_wp2_with fail
  go_ret2
  rw [HP.out]
  exact ⟨rfl,HBE.out⟩
 | some p=>
  obtain ⟨k,S1⟩:=p
  obtain ⟨hok1,hkl⟩:=hok.close hc
  have HNE1:=Lib.hid (show S1.words ≠ [] from by obtain ⟨_,r,_,_,e⟩:=Xc.close_some hc;rw [e];exact hne)
  have HOK1:=Lib.hid hok1
  have HKL:=Lib.hid hkl
  have HP:=Lib.hid (show Xc.ends tag [85,78,84,73,76] S = some (some (Xc.unless k S1)) from by show Xc.ends tag Xc.tUntil S = _;unfold Xc.ends;rw [if_neg (by decide),if_neg (by decide),if_neg (by decide),if_pos rfl,hc] <;> rfl)
  rw [hc] at CC
  clear h hne hok hok1 hkl hT hc hbe ht
  go_enter Tryz.func183,Tryz.ntmps183
  go_wp2_with (go_at_call 244;refine CC.out.mono ?_)
  rintro e w2 ⟨rfl,F2,hm2,st2⟩
  have HT2:=Lib.hid (HT1.out.step st2)
  have C3:=Lib.hid (xunless_any hm2 HNE1.out (HOK1.out.mono (by omega)) k (Nat.le_trans HKL.out (by decide)))
  go_wp2_with (go_at_call 243;refine C3.out.mono ?_)
  rintro e w3 ⟨rfl,F3,hm3,st3⟩
  go_wp2_with fail
  go_ret2
  rw [HP.out]
  exact ⟨rfl,F3,hm3,(Step.of_below HBE.out).trans (st2.trans st3)⟩
set_option maxRecDepth 100000 in
set_option maxHeartbeats 2000000 in
theorem xends_Repeat {F : Nat → Prop} {w : World} {gm : Nat} {tag : List UInt8} {S : Xc.S} (h : Xc.Mk F w gm tag S) (hne : S.words ≠ []) (hok : Xc.Ok 10 S) (hT : Xc.Tb F w) (ht : tag.length ≤ 31) :
  Calls Tryz.prog 183 #[.pointer (some ⟨gm,0,none⟩),.string ⟨#[82,69,80,69,65,84]⟩] w (Xc.EndsPost F w gm tag (Xc.ends tag [82,69,80,69,65,84] S)):=by
 have hbe : Below w.heap.size w (w.alloc (.cells #[.string ⟨#[87,72,73,76,69]⟩] 9)):=(Below.refl _ _).alloc (Nat.le_refl _) _
 have CC:=Lib.hid (show Calls Tryz.prog 244 #[.pointer (some ⟨gm,0,none⟩),.slice (some ⟨w.heap.size,0,none⟩) 1 1] (w.alloc (.cells #[.string ⟨#[87,72,73,76,69]⟩] 9)) (Xc.ClosePost F (w.alloc (.cells #[.string ⟨#[87,72,73,76,69]⟩] 9)) gm tag S (Xc.close [Xc.tWhile] S)) from
  xclose_any (h.kept hbe) (hok.mono (by omega)) (.slice (some ⟨w.heap.size,0,none⟩) 1 1) [Xc.tWhile] (rd_new [Xc.tWhile] (Bk.fresh w _ _) (by simp)) (by simp))
 have HBE:=Lib.hid hbe
 have HT1:=Lib.hid (hT.kept hbe)
 have HNE:=Lib.hid hne
 cases hc : Xc.close [Xc.tWhile] S with
 | none=>
  have HP:=Lib.hid (show Xc.ends tag [82,69,80,69,65,84] S = some none from by show Xc.ends tag Xc.tRepeat S = _;unfold Xc.ends;rw [if_neg (by decide),if_neg (by decide),if_neg (by decide),if_neg (by decide),if_pos rfl,hc] <;> rfl)
  rw [hc] at CC
  clear h hne hok hT ht hc hbe
  go_enter Tryz.func183,Tryz.ntmps183
  go_wp2_with (go_at_call 244;refine CC.out.mono ?_)
  rintro e w2 ⟨rfl,rfl⟩
  go_wp2_with fail
  go_ret2
  rw [HP.out]
  exact ⟨rfl,HBE.out⟩
 | some p=>
  obtain ⟨k,S1⟩:=p
  obtain ⟨hok1,hkl⟩:=hok.close hc
  have HNE1:=Lib.hid (show S1.words ≠ [] from by obtain ⟨_,r,_,_,e⟩:=Xc.close_some hc;rw [e];exact hne)
  have HOK1:=Lib.hid hok1
  have HKL:=Lib.hid hkl
  have HP:=Lib.hid (show Xc.ends tag [82,69,80,69,65,84] S = some (some (Xc.put [Xc.lJ ++ (Xc.back S1).1,k ++ [58]] (Xc.back S1).2)) from by show Xc.ends tag Xc.tRepeat S = _;unfold Xc.ends;rw [if_neg (by decide),if_neg (by decide),if_neg (by decide),if_neg (by decide),if_pos rfl,hc] <;> rfl)
  rw [hc] at CC
  clear h hne hok hok1 hkl hT hc hbe ht
  go_enter Tryz.func183,Tryz.ntmps183
  go_wp2_with (go_at_call 244;refine CC.out.mono ?_)
  rintro e w2 ⟨rfl,F2,hm2,st2⟩
  have HT2:=Lib.hid (HT1.out.step st2)
  have hbe3 : Below w2.heap.size w2 (w2.alloc (.cells #[.string ⟨#[66,69,71,73,78]⟩] 9)):=(Below.refl _ _).alloc (Nat.le_refl _) _
  have C3:=Lib.hid (show Calls Tryz.prog 244 #[.pointer (some ⟨gm,0,none⟩),.slice (some ⟨w2.heap.size,0,none⟩) 1 1] (w2.alloc (.cells #[.string ⟨#[66,69,71,73,78]⟩] 9)) (Xc.ClosePost F2 (w2.alloc (.cells #[.string ⟨#[66,69,71,73,78]⟩] 9)) gm tag S1 (Xc.close [Xc.tBegin] S1)) from
   xclose_any (hm2.kept hbe3) (HOK1.out.mono (by omega)) (.slice (some ⟨w2.heap.size,0,none⟩) 1 1) [Xc.tBegin] (rd_new [Xc.tBegin] (Bk.fresh w2 _ _) (by simp)) (by simp))
  have HBE3:=Lib.hid hbe3
  have HM23:=Lib.hid (hm2.kept hbe3)
  clear hbe3
  cases hc2 : Xc.close [Xc.tBegin] S1 with
  | none=>
   have HBA:=Lib.hid (show Xc.back S1 = ([],S1) from by unfold Xc.back;rw [hc2])
   rw [hc2] at C3
   clear hc2
   go_wp2_with (go_at_call 244;refine C3.out.mono ?_)
   rintro e w4 ⟨rfl,hw4⟩
   have HM4:=Lib.hid (show Xc.Mk F2 w4 gm tag S1 from hw4 ▸ HM23.out)
   have HB4:=Lib.hid (show Below w2.heap.size w2 w4 from hw4 ▸ HBE3.out)
   clear hw4
   obtain ⟨z2,hz2⟩ : ∃ z,k ++ [58] = z:=⟨_,rfl⟩
   have ez2 : (⟨k.toArray⟩ : ByteArray) ++ ⟨#[58]⟩ = ⟨z2.toArray⟩:=by rw [← hz2];exact app_eq k [58]
   have hsum2 : ¬ 9223372036854775807 < k.length + 1:=by have:=HKL.out;omega
   have HZL2:=Lib.hid (show z2.length ≤ 2000 from by rw [← hz2,List.length_append];have:=HKL.out;simp only [List.length_cons,List.length_nil];omega)
   have HPZ:=Lib.hid (show Xc.put [Xc.lJ ++ [],k ++ [58]] S1 = Xc.put [Xc.lJ,z2] S1 from by rw [← hz2];rfl)
   clear hz2
   have hbe5 : Below w4.heap.size w4 (w4.alloc (.cells #[.string ⟨#[106,32]⟩,.string ⟨z2.toArray⟩] 9)):=(Below.refl _ _).alloc (Nat.le_refl _) _
   have C5:=Lib.hid (show Calls Tryz.prog 65 #[.pointer (some ⟨gm,0,none⟩),.slice (some ⟨w4.heap.size,0,none⟩) 2 2] (w4.alloc (.cells #[.string ⟨#[106,32]⟩,.string ⟨z2.toArray⟩] 9)) fun e w'=>e = .returned (.tuple #[]) ∧ Xc.To F2 (w4.alloc (.cells #[.string ⟨#[106,32]⟩,.string ⟨z2.toArray⟩] 9)) gm tag (Xc.put [Xc.lJ,z2] (S1)) w' from
    xput_any (HM4.out.kept hbe5) HNE1.out (HOK1.out.mono (by omega)) (.slice (some ⟨w4.heap.size,0,none⟩) 2 2) [Xc.lJ,z2] (rd_new [Xc.lJ,z2] (Bk.fresh w4 _ _) (by simp)) (by simp))
   have HBE5:=Lib.hid hbe5
   clear hbe5
   go_wp2_with (go_at_call 65;refine C5.out.mono ?_)
   rintro e w5 ⟨rfl,F5,hm5,st5⟩
   go_wp2_with fail
   go_ret2
   rw [HP.out,HBA.out]
   dsimp only
   rw [HPZ.out]
   exact ⟨rfl,F5,hm5,(((Step.of_below HBE.out).trans st2).trans (Step.of_below HB4.out)).trans ((Step.of_below HBE5.out).trans st5)⟩
  | some q=>
   obtain ⟨bk,S2⟩:=q
   obtain ⟨hok2,hbl⟩:=HOK1.out.close hc2
   have HNE2:=Lib.hid (show S2.words ≠ [] from by obtain ⟨_,r,_,_,e⟩:=Xc.close_some hc2;rw [e];exact HNE1.out)
   have HOK2:=Lib.hid hok2
   have HBK:=Lib.hid hbl
   have HBA:=Lib.hid (show Xc.back S1 = (bk,S2) from by unfold Xc.back;rw [hc2])
   rw [hc2] at C3
   clear hc2 hok2 hbl
   go_wp2_with (go_at_call 244;refine C3.out.mono ?_)
   rintro e w4 ⟨rfl,F4,hm4,st4⟩
   obtain ⟨z1,hz1⟩ : ∃ z,[106,32] ++ bk = z:=⟨_,rfl⟩
   have ez1 : (⟨#[106,32]⟩ : ByteArray) ++ ⟨bk.toArray⟩ = ⟨z1.toArray⟩:=by rw [← hz1];exact app_eq [106,32] bk
   have hsum1 : ¬ 9223372036854775807 < 2 + bk.length:=by have:=HBK.out;omega
   have HZL1:=Lib.hid (show z1.length ≤ 2000 from by rw [← hz1,List.length_append];have:=HBK.out;simp only [List.length_cons,List.length_nil];omega)
   obtain ⟨z2,hz2⟩ : ∃ z,k ++ [58] = z:=⟨_,rfl⟩
   have ez2 : (⟨k.toArray⟩ : ByteArray) ++ ⟨#[58]⟩ = ⟨z2.toArray⟩:=by rw [← hz2];exact app_eq k [58]
   have hsum2 : ¬ 9223372036854775807 < k.length + 1:=by have:=HKL.out;omega
   have HZL2:=Lib.hid (show z2.length ≤ 2000 from by rw [← hz2,List.length_append];have:=HKL.out;simp only [List.length_cons,List.length_nil];omega)
   have HPZ:=Lib.hid (show Xc.put [Xc.lJ ++ bk,k ++ [58]] S2 = Xc.put [z1,z2] S2 from by rw [← hz1,← hz2];rfl)
   clear hz1 hz2
   have hbe5 : Below w4.heap.size w4 (w4.alloc (.cells #[.string ⟨z1.toArray⟩,.string ⟨z2.toArray⟩] 9)):=(Below.refl _ _).alloc (Nat.le_refl _) _
   have C5:=Lib.hid (show Calls Tryz.prog 65 #[.pointer (some ⟨gm,0,none⟩),.slice (some ⟨w4.heap.size,0,none⟩) 2 2] (w4.alloc (.cells #[.string ⟨z1.toArray⟩,.string ⟨z2.toArray⟩] 9)) fun e w'=>e = .returned (.tuple #[]) ∧ Xc.To F4 (w4.alloc (.cells #[.string ⟨z1.toArray⟩,.string ⟨z2.toArray⟩] 9)) gm tag (Xc.put [z1,z2] (S2)) w' from
    xput_any (hm4.kept hbe5) HNE2.out (HOK2.out.mono (by omega)) (.slice (some ⟨w4.heap.size,0,none⟩) 2 2) [z1,z2] (rd_new [z1,z2] (Bk.fresh w4 _ _) (by simp)) (by simp))
   have HBE5:=Lib.hid hbe5
   clear hbe5
   go_wp2_with (go_at_call 65;refine C5.out.mono ?_)
   rintro e w5 ⟨rfl,F5,hm5,st5⟩
   go_wp2_with fail
   go_ret2
   rw [HP.out,HBA.out]
   dsimp only
   rw [HPZ.out]
   exact ⟨rfl,F5,hm5,(((Step.of_below HBE.out).trans st2).trans ((Step.of_below HBE3.out).trans st4)).trans ((Step.of_below HBE5.out).trans st5)⟩
set_option maxRecDepth 100000 in
set_option maxHeartbeats 2000000 in
theorem xends_any {F : Nat → Prop} {w : World} {gm : Nat} {tag : List UInt8} {S : Xc.S} (h : Xc.Mk F w gm tag S) (hne : S.words ≠ []) (hok : Xc.Ok 10 S) (hT : Xc.Tb F w) (ht : tag.length ≤ 31) (c : List UInt8) :
  Calls Tryz.prog 183 #[.pointer (some ⟨gm,0,none⟩),.string ⟨c.toArray⟩] w (Xc.EndsPost F w gm tag (Xc.ends tag c S)):=by
 by_cases hElse : c = [69,76,83,69]
 ·subst hElse;exact xends_Else h hne hok hT ht
 by_cases hThen : c = [84,72,69,78]
 ·subst hThen;exact xends_Then h hne hok hT ht
 by_cases hAgain : c = [65,71,65,73,78]
 ·subst hAgain;exact xends_Again h hne hok hT ht
 by_cases hUntil : c = [85,78,84,73,76]
 ·subst hUntil;exact xends_Until h hne hok hT ht
 by_cases hRepeat : c = [82,69,80,69,65,84]
 ·subst hRepeat;exact xends_Repeat h hne hok hT ht
 have HP:=Lib.hid (show Xc.ends tag c S = none from by unfold Xc.ends;rw [if_neg (show ¬ c = Xc.tElse from hElse),if_neg (show ¬ c = Xc.tThen from hThen),if_neg (show ¬ c = Xc.tAgain from hAgain),if_neg (show ¬ c = Xc.tUntil from hUntil),if_neg (show ¬ c = Xc.tRepeat from hRepeat)])
 have eElse : (c == [69,76,83,69]) = false:=by simpa using hElse
 have eThen : (c == [84,72,69,78]) = false:=by simpa using hThen
 have eAgain : (c == [65,71,65,73,78]) = false:=by simpa using hAgain
 have eUntil : (c == [85,78,84,73,76]) = false:=by simpa using hUntil
 have eRepeat : (c == [82,69,80,69,65,84]) = false:=by simpa using hRepeat
 clear h hne hok hT ht hElse hThen hAgain hUntil hRepeat
 go_enter Tryz.func183,Tryz.ntmps183
 go_wp2_with fail
 go_ret2
 rw [HP.out]
 exact ⟨rfl,rfl⟩
end Go.Proofs.YtpcpaoeajcjoiaaGreatDoor
