/- Texts joined, what is not reached left out. -/
import Derived.Test.YtpcpaoeajcjoiaaGreatDoorL6Plain
import Derived.Test.YtpcpaoeajcjoiaaGreatDoorQShelf
import Derived.Test.YtpcpaoeajcjoiaaGreatDoorRows
import Derived.Test.YtpcpaoeajcjoiaaGreatDoorKA
import Derived.BigQuiet
import Derived.Deep.DeepCutAuto
import Derived.Outline
import Derived.Deep.QuietTactic
set_option linter.unusedVariables false
set_option linter.unusedSimpArgs false
namespace Go.Proofs.YtpcpaoeajcjoiaaGreatDoor
open Go.RowKit Kit
theorem lret_bool {a b:Bool} (h:a = b):Ending.returned (.bool a) = .returned (.bool b):=by rw [h]
theorem lret_str {a b:List UInt8} (h:a = b):Ending.returned (.string ⟨a.toArray⟩) = .returned (.string ⟨b.toArray⟩):=by rw [h]
theorem ext_eq (l:List UInt8) (a b:Nat):(⟨l.toArray⟩:ByteArray).extract a b = ⟨((l.drop a).take (b - a)).toArray⟩:=by
 have h:=Lib.extract_data (⟨l.toArray⟩:ByteArray) a b
 cases hx:(⟨l.toArray⟩:ByteArray).extract a b with
 | mk d=>
  rw [hx] at h
  simp at h
  congr 1
  apply Array.toList_inj.1
  simpa using h
theorem lblank_any (c:UInt8) (w:World):Calls Tryz.prog 229 #[.int .u8 c.toNat] w fun e w'=>e = .returned (.bool (L6.blank c))∧w = w':=by
 by_cases h1:c = 32
 ·subst h1
  go_enter Tryz.func229,Tryz.ntmps229
  go_wp2
  go_ret
  exact ⟨rfl,rfl⟩
 ·have g1:((c.toNat:Int) == 32) = false:=by
   rw [beq_eq_false_iff_ne];intro h;apply h1
   have:c.toNat = 32:=by omega
   exact UInt8.toNat_inj.1 this
  by_cases h2:c = 9
  ·subst h2
   go_enter Tryz.func229,Tryz.ntmps229
   go_wp2
   go_ret
   exact ⟨rfl,rfl⟩
  ·have g2:((c.toNat:Int) == 9) = false:=by
    rw [beq_eq_false_iff_ne];intro h;apply h2
    have:c.toNat = 9:=by omega
    exact UInt8.toNat_inj.1 this
   have HR:=Lib.hid (show L6.blank c = false by simp [L6.blank,h1,h2])
   clear h1 h2
   go_enter Tryz.func229,Tryz.ntmps229
   go_wp2
   go_ret
   exact ⟨lret_bool HR.out.symm,rfl⟩
theorem lbare_any (l:List UInt8) (w:World) (hl:l.length≤maxLen):Calls Tryz.prog 162 #[.string ⟨l.toArray⟩] w fun e w'=>e = .returned (.string ⟨(L6.bare l).toArray⟩)∧w = w':=by
 unfold maxLen at hl
 go_enter Tryz.func162,Tryz.ntmps162
 go_wp2_with fail
 go_loop [0] (fun s=>∃ m:List UInt8,s = .string ⟨m.toArray⟩∧L6.bare m = L6.bare l∧m.length≤l.length) (fun s=>match s with | .string t=>t.size | _=>0)
 case atStart=>exact ⟨l,rfl,rfl,Nat.le_refl _⟩
 case round=>
  obtain ⟨m,rfl,hm,hml⟩:=hrel
  have HM:=Lib.hid hm
  clear hm
  cases m with
  | nil=>
   go_wp2_with fail
   go_ret
   exact ⟨lret_str HM.out,rfl⟩
  | cons c t=>
   simp only [List.length_cons] at hml
   have cB:=Lib.hid (fun W=>lblank_any c W)
   cases hb:L6.blank c
   ·rw [hb] at cB
    have HB:=Lib.hid hb
    clear hb
    go_wp2_with (go_at_call 229;refine (cB.out _).mono ?_;rintro e w' ⟨rfl,rfl⟩)
    go_ret
    exact ⟨lret_str (by rw [← HM.out];simp [L6.bare,HB.out]),rfl⟩
   ·rw [hb] at cB
    have HB:=Lib.hid hb
    clear hb
    go_wp2_with (go_at_call 229;refine (cB.out _).mono ?_;rintro e w' ⟨rfl,rfl⟩)
    go_round
    case rel=>exact ⟨t,by rw [ext_eq];simp,by rw [← HM.out];simp [L6.bare,HB.out],by omega⟩
    case measure=>simp [ByteArray.size]
theorem L6.word_take:∀ (l:List UInt8) (k:Nat),k≤l.length→(∀ j,j < k→L6.blank (l.getD j 0) = false)→(k = l.length ∨ L6.blank (l.getD k 0) = true)→L6.word l = l.take k∧L6.behind l = l.drop k
 | [],k,hk,_,_=>by simp [L6.word,L6.behind]
 | c :: t,0,_,_,h=>by
  rcases h with h | h
  ·simp at h
  ·have h':L6.blank c = true:=h
   simp [L6.word,L6.behind,h']
 | c :: t,k+1,hk,hno,h=>by
  have hc:L6.blank c = false:=hno 0 (by omega)
  have:=L6.word_take t k (by simpa using hk) (fun j hj=>hno (j+1) (by omega)) (by
   rcases h with h | h
   ·left;simpa using h
   ·right;exact h)
  simp [L6.word,L6.behind,hc,this]
theorem L6.get_data (l:List UInt8) (k:Nat) (h:k < l.length):(⟨l.toArray⟩:ByteArray)[k]'h = l.getD k 0:=by
 simp [List.getD,List.getElem?_eq_getElem h];rfl
theorem lret_ssb {a a' b b':ByteArray} {x y:Bool} (h1:a = a') (h2:b = b') (h3:x = y):Ending.returned (.tuple #[.string a,.string b,.bool x]) = .returned (.tuple #[.string a',.string b',.bool y]):=by rw [h1,h2,h3]
theorem lnext_plain (l:List UInt8) (c:UInt8) (t:List UInt8) (hl:l = c :: t) (hc:c ≠ 34) (w:World) (hm:l.length≤maxLen) :
  Calls Tryz.prog 163 #[.string ⟨l.toArray⟩] w fun e w'=>e = .returned (.tuple #[.string ⟨(L6.word l).toArray⟩,.string ⟨(L6.behind l).toArray⟩,.bool true])∧∃ n,w' = w.drewN n:=by
 unfold maxLen at hm
 have h0:0 < l.length:=by rw [hl];simp
 have g34:(((((⟨l.toArray⟩:ByteArray)[0]'h0).toNat:Int)) != 34) = true:=by
  rw [L6.get_data l 0 h0,hl,bne_iff_ne];intro h;apply hc
  have:c.toNat = 34:=by simp at h;omega
  exact UInt8.toNat_inj.1 this
 clear hl hc
 have HT:=Lib.hid (fun k=>L6.word_take l k)
 have cB:=Lib.hid (fun (k:Nat) (hk:k < l.length) W=>lblank_any ((⟨l.toArray⟩:ByteArray)[k]'hk) W)
 have HG:=Lib.hid (fun k (hk:k < l.length)=>L6.get_data l k hk)
 go_enter Tryz.func163,Tryz.ntmps163
 go_wp2_with fail
 clear g34
 go_loop [5] (fun i=>∃ k:Nat,k≤l.length∧i = .int .i64 k∧∀ j,j < k→L6.blank (l.getD j 0) = false) (fun i=>l.length - (intOf i).toNat)
 case atStart=>exact ⟨0,Nat.zero_le _,rfl,fun j hj=>absurd hj (by omega)⟩
 case round=>
  obtain ⟨k,hk,rfl,hno⟩:=hrel
  have HNO:=Lib.hid hno
  clear hno
  have fin:∀ (he:k = l.length ∨ L6.blank (l.getD k 0) = true),L6.word l = l.take k∧L6.behind l = l.drop k:=fun he=>HT.out k hk HNO.out he
  have HF:=Lib.hid fin
  clear fin
  by_cases hlt:k < l.length
  ·have CB:=Lib.hid (cB.out k hlt)
   have HB1:=Lib.hid (congrArg L6.blank (HG.out k hlt))
   have hlt':(k:Int) < l.length:=by omega
   cases hb:L6.blank ((⟨l.toArray⟩:ByteArray)[k]'hlt)
   ·rw [hb] at CB HB1
    have HB:=Lib.hid HB1.out
    clear hb HB1
    go_wp2_with (go_at_call 229;refine (CB.out _).mono ?_;rintro e w' ⟨rfl,rfl⟩)
    go_round
    case rel=>
     refine ⟨k+1,by omega,by go_num,fun j hj=>?_⟩
     by_cases hjk:j = k
     ·subst hjk;exact HB.out.symm
     ·exact HNO.out j (by omega)
    case measure=>simp [intOf];omega
   ·rw [hb] at CB HB1
    have HR:=Lib.hid (HF.out (.inr HB1.out.symm))
    clear hb HB1
    go_wp2_with (go_at_call 229;refine (CB.out _).mono ?_;rintro e w' ⟨rfl,rfl⟩)
    go_quiet (fail)
    go_wp2_with fail
    go_ret3
    exact ⟨lret_ssb (by rw [ext_eq,HR.out.1];simp) (by rw [ext_eq,HR.out.2,List.take_of_length_le (by simp)]) rfl,nq,rfl⟩
  ·obtain rfl:k = l.length:=by omega
   have HR:=Lib.hid (HF.out (.inl rfl))
   go_wp2_with fail
   go_quiet (fail)
   go_wp2_with fail
   go_ret3
   exact ⟨lret_ssb (by first | (rw [ext_eq,HR.out.1];simp) | (rw [HR.out.1];simp)) (by rw [HR.out.2,List.drop_length];rfl) rfl,nq,rfl⟩
theorem L6.quote_idx:∀ t:List UInt8,(L6.quote t = none∧Lib.indexByte t 34 = -1) ∨ ∃ i:Nat,i < t.length∧Lib.indexByte t 34 = i∧L6.quote t = some (t.take (i+1),t.drop (i+1))
 | []=>.inl ⟨rfl,rfl⟩
 | c :: t=>by
  by_cases hc:c = 34
  ·right
   refine ⟨0,by simp,?_,?_⟩
   ·unfold Lib.indexByte;rw [if_pos (by simp [hc])];rfl
   ·unfold L6.quote;rw [if_pos hc,hc];rfl
  ·have hb:¬ (c == 34) = true:=by simpa using hc
   rcases L6.quote_idx t with ⟨h1,h2⟩ | ⟨i,h1,h2,h3⟩
   ·left
    refine ⟨by unfold L6.quote;rw [if_neg hc,h1];rfl,?_⟩
    unfold Lib.indexByte;rw [if_neg hb,h2];rfl
   ·right
    refine ⟨i+1,by simpa using h1,?_,?_⟩
    ·unfold Lib.indexByte
     rw [if_neg hb,h2,if_neg (by simp)]
     simp
    ·unfold L6.quote;rw [if_neg hc,h3];rfl
theorem lnext_quote (t:List UInt8) (w:World) (hm:(34 :: t).length≤maxLen) :
  Calls Tryz.prog 163 #[.string ⟨(34 :: t).toArray⟩] w fun e w'=>e = .returned (.tuple #[.string ⟨(L6.next (34 :: t)).1.toArray⟩,.string ⟨(L6.next (34 :: t)).2.1.toArray⟩,.bool (L6.next (34 :: t)).2.2])∧∃ n,w' = w.drewN n:=by
 unfold maxLen at hm
 simp only [List.length_cons] at hm
 have hx1:(⟨(34 :: t).toArray⟩:ByteArray).extract 1 (t.length+1) = ⟨t.toArray⟩:=by rw [ext_eq];simp
 have cI:=Lib.hid (fun W=>Tryz.strings_IndexByte ⟨t.toArray⟩ 34 W)
 rw [show ((⟨t.toArray⟩:ByteArray).data.toList) = t from rfl,show (34:Int).toNat.toUInt8 = 34 from rfl] at cI
 rcases L6.quote_idx t with ⟨h1,h2⟩ | ⟨i,h1,h2,h3⟩
 ·rw [h2] at cI
  have HR:=Lib.hid (show L6.next (34 :: t) = ([],[],false) by rw [L6.next_quote rfl,h1])
  clear h1 h2
  go_enter Tryz.func163,Tryz.ntmps163
  go_wp2_with (go_at_call 118;refine (cI.out _).mono ?_;rintro e w' ⟨rfl,rfl⟩)
  go_ret3
  rw [HR.out]
  exact ⟨rfl,0,rfl⟩
 ·rw [h2] at cI
  have HR:=Lib.hid (show L6.next (34 :: t) = (34 :: t.take (i+1),t.drop (i+1),L6.free (t.drop (i+1))) by rw [L6.next_quote rfl,h3])
  have hx2:(⟨(34 :: t).toArray⟩:ByteArray).extract (i+2) (t.length+1) = ⟨(t.drop (i+1)).toArray⟩:=by
   rw [ext_eq,List.drop_succ_cons,List.take_of_length_le (by simp <;> omega)]
  have hx3:(⟨(34 :: t).toArray⟩:ByteArray).extract 0 (i+2) = ⟨(34 :: t.take (i+1)).toArray⟩:=by
   rw [ext_eq];simp
  have hi1:(i:Int) < t.length:=by omega
  have hi2:(i:Int)+2≤t.length+1:=by omega
  have hwr:IntKind.i64.wrap ((i:Int)+2) = (i:Int)+2:=by rw [IntKind.wrap_i64];omega
  generalize t.drop (i+1) = r at *
  clear h1 h2 h3
  cases r with
  | nil=>
   go_enter Tryz.func163,Tryz.ntmps163
   go_wp2_with (go_at_call 118;refine (cI.out _).mono ?_;rintro e w' ⟨rfl,rfl⟩)
   go_quiet (fail)
   go_wp2_with fail
   go_ret3
   rw [HR.out]
   exact ⟨lret_ssb hx3 hx2 rfl,nq,rfl⟩
  | cons d u=>
   have cB:=Lib.hid (fun W=>lblank_any d W)
   go_enter Tryz.func163,Tryz.ntmps163
   go_wp2_with (go_at_call 118;refine (cI.out _).mono ?_;rintro e w' ⟨rfl,rfl⟩)
   go_quiet ((go_at_call 229;exact Calls.quiet_of_same ((cB.out _).mono fun _ _ h=>⟨h.1,h.2.symm⟩)))
   go_wp2_with fail
   go_ret3
   rw [HR.out]
   exact ⟨lret_ssb hx3 hx2 rfl,nq,rfl⟩
theorem lnext_any (c:UInt8) (t:List UInt8) (w:World) (hm:(c :: t).length≤maxLen) :
  Calls Tryz.prog 163 #[.string ⟨(c :: t).toArray⟩] w fun e w'=>e = .returned (.tuple #[.string ⟨(L6.next (c :: t)).1.toArray⟩,.string ⟨(L6.next (c :: t)).2.1.toArray⟩,.bool (L6.next (c :: t)).2.2])∧∃ n,w' = w.drewN n:=by
 by_cases h:c = 34
 ·subst h;exact lnext_quote t w hm
 ·rw [L6.next_plain h]
  exact lnext_plain (c :: t) c t rfl h w hm
end Go.Proofs.YtpcpaoeajcjoiaaGreatDoor
