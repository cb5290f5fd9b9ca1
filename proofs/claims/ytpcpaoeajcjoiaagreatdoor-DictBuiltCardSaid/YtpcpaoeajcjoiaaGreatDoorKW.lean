/- Texts joined, what is not reached left out. -/
import Derived.Test.YtpcpaoeajcjoiaaGreatDoorKN
import Derived.Deep.RegionHeld3
import Derived.Deep.RegionLaw
set_option linter.unusedVariables false
set_option linter.unusedSimpArgs false
namespace Go.Proofs.YtpcpaoeajcjoiaaGreatDoor
open Go.RowKit Kit
theorem lsrt:RowTy Tryz.prog 61 9 1 16:=
 ⟨Tryz.underlying61,by
  have h:(Tryz.prog.info? 9).map (fun i=>(i.zero,i.size,i.bytes)) = some (some (.string ByteArray.empty),1,16):=by kernel_rfl
  obtain ⟨i,h1,h2,h3,h4⟩:=info_parts h
  exact ⟨i,_,h1,h2,h3,h4,rfl⟩⟩
def L6.sv (l:List (List UInt8)):List Value:=l.map fun x=>Value.string ⟨x.toArray⟩
theorem L6.sv_length (l:List (List UInt8)):(L6.sv l).length = l.length:=by simp [L6.sv]
theorem L6.sv_append (a b:List (List UInt8)):L6.sv (a ++ b) = L6.sv a ++ L6.sv b:=by simp [L6.sv]
theorem L6.sv_one (l:List (List UInt8)):∀ u ∈ L6.sv l,u.oneCell' = true:=by
 intro u hu;simp only [L6.sv,List.mem_map] at hu;obtain ⟨_,_,rfl⟩:=hu;rfl
def OwnS (base:Nat) (w:World) (v:Value) (l:List (List UInt8)):Prop:=w.ownsRow base 9 1 v l.length (L6.sv l)
theorem OwnS.nil (base:Nat) (w:World):OwnS base w (.slice none 0 0) []:=World.ownsRow_nil w base 9 1
theorem OwnS.kept {base:Nat} {w w':World} {v:Value} {l:List (List UInt8)} (h:OwnS base w v l) (hb:Below w.heap.size w w'):OwnS base w' v l:=own_kept h hb
theorem OwnS.rebase {base base':Nat} {w:World} {v:Value} {l:List (List UInt8)} (h:OwnS base w v l) (hb:base'≤base):OwnS base' w v l:=own_rebase h hb
theorem OwnS.form {base:Nat} {w:World} {v:Value} {l:List (List UInt8)} (h:OwnS base w v l):∃ A c,v = .slice A l.length c:=(Rd.of_own h).form
theorem src_one (w:World) (x:List UInt8):Src Tryz.prog 1 61 (.slice (some ⟨w.heap.size,0,none⟩) 1 1) 1 [.string ⟨x.toArray⟩] (w.alloc (.cells #[.string ⟨x.toArray⟩] 9)):=
 Rd.src lsrt (Rd.built (Bk.fresh w _ #[.string ⟨x.toArray⟩]) rfl) (by intro u hu;simp at hu;subst hu;rfl)
theorem L6.note_prefix (l:List UInt8):Lib.hasPrefix l [47,47] = L6.note l:=by
 unfold L6.note
 match l with
 | []=>rfl
 | [a]=>by_cases h:a = 47 <;> simp [Lib.hasPrefix,List.isPrefixOf,h]
 | a :: b :: t=>
  by_cases h:a = 47
  ·by_cases h':b = 47
   ·subst h h';simp [Lib.hasPrefix,List.isPrefixOf]
   ·subst h;simp [Lib.hasPrefix,List.isPrefixOf,h',Ne.symm h']
  ·simp [Lib.hasPrefix,List.isPrefixOf,h,Ne.symm h]
theorem isDrewN6 {B:Nat} {a w:World} (h:Below B a w) (n:Nat):Below B a (w.drewN n):=⟨h.os,h.tape,h.output,h.size,h.block⟩
def WordsPost (base:Nat) (w:World) (r:Option (List (List UInt8))) (e:Ending) (w':World):Prop:=
 match r with
 | none=>e = .returned (.tuple #[.slice none 0 0,.bool false])∧Below base w w'
 | some ws=>∃ v,e = .returned (.tuple #[v,.bool true])∧OwnS base w' v ws∧Below base w w'
theorem L6.map_app (acc:List (List UInt8)) (x:List UInt8) (r:Option (List (List UInt8))):(r.map (x :: ·)).map (acc ++ ·) = r.map ((acc ++ [x]) ++ ·):=by
 cases r <;> simp
set_option maxHeartbeats 1000000 in
theorem lwords_any (l:List UInt8) (w:World) (hl:l.length≤1000000000):Calls Tryz.prog 100 #[.string ⟨l.toArray⟩] w (WordsPost w.heap.size w (L6.wordsOf l)):=by
 have HLL:=Lib.hid (show l.length≤1000000000 from hl)
 go_enter Tryz.func100,Tryz.ntmps100
 go_wp2_with fail
 go_step3
 go_wp2_with fail
 go_step3
 go_wp2_with fail
 go_loopw [0,4] (fun s v wr=>∃ (m:List UInt8) (acc:List (List UInt8)),s = .string ⟨m.toArray⟩∧OwnS w.heap.size wr v acc∧L6.wordsOf l = (L6.wordsOf m).map (acc ++ ·)∧m.length+acc.length≤l.length∧Below w.heap.size w wr) (fun s _ _=>match s with | .string t=>t.size | _=>0)
 case atStart=>exact ⟨l,[],rfl,OwnS.nil _ _,by cases L6.wordsOf l <;> simp,by simp,Below.refl _ _⟩
 case round=>
  obtain ⟨m,acc,rfl,hown,hw,hml,hbr⟩:=hrel
  have HOW:=Lib.hid hown
  have HW:=Lib.hid hw
  have HML:=Lib.hid hml
  have HBR:=Lib.hid hbr
  clear hw hml hbr
  have HB:=Lib.hid (lbare_any m wr (by have:=HML.out;have:=HLL.out;unfold maxLen;omega))
  have hbl:=L6.bare_len m
  cases hb:L6.bare m with
  | nil=>
   rw [hb] at HB
   have HR:=Lib.hid (show L6.wordsOf l = some acc by rw [HW.out,L6.wordsOf_bare m hb];simp)
   obtain ⟨A,c,rfl⟩:=hown.form
   clear hb hown
   go_wp2_with (go_at_call 162;refine HB.out.mono ?_;rintro e w' ⟨rfl,rfl⟩)
   rw [Exit.noGoto_ret]
   go_ret2
   rw [HR.out]
   exact ⟨_,rfl,HOW.out,HBR.out⟩
  | cons c t=>
   rw [hb] at HB hbl
   have HN:=Lib.hid (fun W=>lnext_any c t W (by have:=HML.out;have:=HLL.out;unfold maxLen;omega))
   have HWN:=Lib.hid (L6.wordsOf_next m c t hb)
   have HLT:=Lib.hid (L6.next_len c t (L6.bare_head hb))
   have HBL:=Lib.hid hbl
   clear hb hbl
   generalize L6.next (c :: t) = N at *
   obtain ⟨x,r,ok⟩:=N
   dsimp only at HN HWN HLT
   have HP:=Lib.hid (fun W=>Tryz.strings_HasPrefix ⟨x.toArray⟩ ⟨#[47,47]⟩ W)
   rw [show Lib.hasPrefix (⟨x.toArray⟩:ByteArray).data.toList (⟨#[47,47]⟩:ByteArray).data.toList = L6.note x from L6.note_prefix x] at HP
   obtain ⟨A,cap,hv⟩:=hown.form
   cases hn:L6.note x
   ·rw [hn] at HP HWN
    cases ok
    ·have HR:=Lib.hid (show L6.wordsOf l = none by rw [HW.out,HWN.out];simp)
     subst hv
     clear hown hn
     go_wp2_with (first | (go_at_call 162;refine HB.out.mono ?_;rintro e w' ⟨rfl,rfl⟩) | (go_at_call 163;refine (HN.out _).mono ?_;rintro e w' ⟨rfl,k,rfl⟩) | (go_at_call 114;refine (HP.out _).mono ?_;rintro e w' ⟨rfl,rfl⟩))
     rw [Exit.noGoto_ret]
     go_ret2
     rw [HR.out]
     exact ⟨rfl,isDrewN6 HBR.out _⟩
    ·have HWL:=Lib.hid (show L6.wordsOf l = (L6.wordsOf r).map ((acc ++ [x]) ++ ·) by
      rw [HW.out,HWN.out,if_neg (by decide),if_pos rfl];exact L6.map_app acc x _)
     subst hv
     have HOWK:=Lib.hid (show ∀ k:Nat,((wr.drewN k).alloc (.cells #[.string ⟨x.toArray⟩] 9)).ownsRow w.heap.size 9 1 (.slice A acc.length cap) acc.length (L6.sv acc) from fun k=>
      (HOW.out.kept (isDrewN6 (Below.refl _ _) k)).kept ((Below.refl _ _).alloc (Nat.le_refl _) _))
     have HSK:=Lib.hid (show ∀ k:Nat,Src Tryz.prog 1 61 (.slice (some ⟨wr.heap.size,0,none⟩) 1 1) 1 [.string ⟨x.toArray⟩] ((wr.drewN k).alloc (.cells #[.string ⟨x.toArray⟩] 9)) from fun k=>src_one (wr.drewN k) x)
     have HL1:=Lib.hid (show (acc.length+1) * 16≤140737488355328 by have:=HML.out;have:=HLL.out;omega)
     have HL2:=Lib.hid (show acc.length+1≤maxLen by have:=HML.out;have:=HLL.out;unfold maxLen;omega)
     have HZ:=Lib.hid (show ∀ k:Nat,w.heap.size≤((wr.drewN k).alloc (.cells #[.string ⟨x.toArray⟩] 9)).heap.size from fun k=>by
      have h1:=HBR.out.size
      have h2:((wr.drewN k).alloc (.cells #[.string ⟨x.toArray⟩] 9)).heap.size = wr.heap.size+1:=by rw [World.size_alloc];rfl
      omega)
     have HBK:=Lib.hid (show ∀ k:Nat,Below w.heap.size w ((wr.drewN k).alloc (.cells #[.string ⟨x.toArray⟩] 9)) from fun k=>(isDrewN6 HBR.out k).alloc HBR.out.size _)
     clear hown hn
     go_wp2_with (first | (go_at_call 162;refine HB.out.mono ?_;rintro e w' ⟨rfl,rfl⟩) | (go_at_call 163;refine (HN.out _).mono ?_;rintro e w' ⟨rfl,k,rfl⟩) | (go_at_call 114;refine (HP.out _).mono ?_;rintro e w' ⟨rfl,rfl⟩) | (at_builtin;refine wpList_appendRB rfl _ _ _ _ rfl lsrt (by decide) w.heap.size _ rfl acc.length (L6.sv acc) (HOWK.out _) _ rfl 1 [.string ⟨x.toArray⟩] (HSK.out _) HL1.out HL2.out (HZ.out _) ?_;intro v3 w3 ho3 hb3 _ _;have HO3:=Lib.hid ho3;have HB3:=Lib.hid ((HBK.out _).trans hb3);obtain ⟨A3,c3,rfl⟩:=(Rd.of_own ho3).form;clear ho3 hb3))
     go_roundw
     case rel=>
      refine ⟨r,acc ++ [x],rfl,?_,HWL.out,?_,HB3.out⟩
      ·unfold OwnS
       rw [L6.sv_append,List.length_append]
       exact HO3.out
      ·have:=HML.out;have:=HLT.out;have:=HBL.out;simp at *;omega
     case measure=>have:=HLT.out;have:=HBL.out;simp [ByteArray.size] at *;omega
   ·rw [hn] at HP HWN
    have HR:=Lib.hid (show L6.wordsOf l = some acc by rw [HW.out,HWN.out];simp)
    subst hv
    clear hown hn
    go_wp2_with (first | (go_at_call 162;refine HB.out.mono ?_;rintro e w' ⟨rfl,rfl⟩) | (go_at_call 163;refine (HN.out _).mono ?_;rintro e w' ⟨rfl,k,rfl⟩) | (go_at_call 114;refine (HP.out _).mono ?_;rintro e w' ⟨rfl,rfl⟩))
    rw [Exit.noGoto_ret]
    go_ret2
    rw [HR.out]
    exact ⟨_,rfl,HOW.out.kept (isDrewN6 (Below.refl _ _) _),isDrewN6 HBR.out _⟩
def RdS (w:World) (v:Value) (l:List (List UInt8)):Prop:=Rd w 1 v l.length (L6.sv l)
theorem OwnS.rd {base:Nat} {w:World} {v:Value} {l:List (List UInt8)} (h:OwnS base w v l):RdS w v l:=Rd.of_own h
theorem RdS.kept {w w':World} {v:Value} {l:List (List UInt8)} (h:RdS w v l) (hb:Below w.heap.size w w'):RdS w' v l:=Rd.kept h hb
theorem RdS.cons {w:World} {v:Value} {x:List UInt8} {l:List (List UInt8)} (h:RdS w v (x :: l)) :
  ∃ g off c,v = .slice (some ⟨g,off,none⟩) (l.length+1) c∧l.length+1≤c∧c≤maxLen∧g < w.heap.size∧w.cell? ⟨g,off,none⟩ = some (.string ⟨x.toArray⟩) ∧
   ∃ v2,(∀ (k:IntKind) W,(Instr.slice 61 v (some (.int k 1)) none none).run Tryz.prog W = .ok v2 W)∧RdS w v2 l∧∀ g' off' n' c',v2 = .slice (some ⟨g',off',none⟩) n' c'→g' = g:=by
 obtain ⟨hl,A,c,rfl,h2,h3,h4⟩:=h
 simp only [List.length_cons] at h2 h4
 obtain ⟨g,off,rfl,hg,hc⟩:=h4 (by omega)
 refine ⟨g,off,c,rfl,h2,h3,hg,by simpa [L6.sv] using hc 0 _ rfl,sliced (some ⟨g,off,none⟩) 1 (l.length+1) c 1,?_,?_,?_⟩
 ·intro k W
  have helem:Tryz.prog.elem 61 = 9:=by simp [Program.elem,Tryz.underlying61]
  have ht:Tryz.prog.underlying 61 = some (.slice (Tryz.prog.elem 61)):=by rw [helem];exact Tryz.underlying61
  obtain ⟨i,z,hi,hz,hs,hb,hzs⟩:=lsrt.info
  have hsz:(sizeOf (Tryz.prog.elem 61)).run Tryz.prog W = .ok 1 W:=by rw [helem];simp [sizeOf,typeInfo,hi,hs]
  rw [run_slice_l (w:=W) 61 _ _ _ ht k 1 (by omega) (by simp <;> omega),hsz]
  simp
 ·refine ⟨by simp [L6.sv],?_⟩
  unfold sliced
  by_cases hcl:c = 1
  ·exact ⟨some ⟨g,off,none⟩,c - 1,by rw [if_pos hcl];simp,by omega,by omega,fun hn=>by omega⟩
  ·refine ⟨some ⟨g,off+1,none⟩,c - 1,by rw [if_neg hcl];simp [addr_add],by omega,by omega,fun hn=>⟨g,off+1,rfl,hg,fun j u hu=>?_⟩⟩
   have:=hc (j+1) u (by simpa [L6.sv] using hu)
   rw [show off+1+j = off+(j+1) by omega]
   exact this
 ·intro g' off' n' c' e
  unfold sliced at e
  by_cases hcl:c = 1
  ·rw [if_pos hcl] at e
   injection e with e
   injection e with e
   injection e with e
   exact e.symm
  ·rw [if_neg hcl] at e
   simp only [Option.map_some,addr_add] at e
   injection e with e
   injection e with e
   injection e with e
   exact e.symm
theorem RdS.nil_form {w:World} {v:Value} (h:RdS w v []):∃ A c,v = .slice A 0 c:=Rd.form h
theorem L6.suffix_one (l:List UInt8) (c:UInt8):Lib.hasSuffix l [c] = (!l.isEmpty && l.getLastD 0 == c):=by
 unfold Lib.hasSuffix List.isSuffixOf
 rcases List.eq_nil_or_concat l with rfl | ⟨t,d,rfl⟩
 ·rfl
 ·have he:(t ++ [d]).isEmpty = false:=by cases t <;> rfl
  have hl:(t ++ [d]).getLastD 0 = d:=by simp
  rw [List.concat_eq_append,he,hl,List.reverse_append]
  by_cases h:c = d
  ·subst h;simp [List.isPrefixOf]
  ·have h1:(c == d) = false:=by simpa using h
   have h2:(d == c) = false:=by simpa using Ne.symm h
   simp [List.isPrefixOf,h1,h2]
theorem llabel_any (l:List UInt8) (w:World) (hm:l.length≤maxLen):Calls Tryz.prog 164 #[.string ⟨l.toArray⟩] w fun e w'=>e = .returned (.bool (L6.label l))∧w = w':=by
 have cS:=Lib.hid (fun W=>Tryz.strings_HasSuffix ⟨l.toArray⟩ ⟨#[58]⟩ W (by have:=hm;unfold maxLen at this;simpa [ByteArray.size] using this))
 rw [show Lib.hasSuffix (⟨l.toArray⟩:ByteArray).data.toList (⟨#[58]⟩:ByteArray).data.toList = (!l.isEmpty && l.getLastD 0 == 58) from L6.suffix_one l 58] at cS
 unfold maxLen at hm
 by_cases h1:1 < l.length
 ·have g1:(1:Int) < l.length:=by omega
  have hne:l.isEmpty = false:=by cases l with | nil=>simp at h1 | cons a b=>rfl
  rw [hne] at cS
  have HL:=Lib.hid (show L6.label l = ((l.getLastD 0 == 58) && (l.headD 0 != 34)) by unfold L6.label;simp [h1])
  cases hb:l.getLastD 0 == 58
  ·rw [hb] at cS HL
   clear hb hne h1
   go_enter Tryz.func164,Tryz.ntmps164
   go_wp2_with (go_at_call 98;refine (cS.out _).mono ?_;rintro e w' ⟨rfl,rfl⟩)
   go_ret
   exact ⟨lret_bool (by rw [HL.out];rfl),rfl⟩
  ·rw [hb] at cS HL
   have h0:0 < l.length:=by omega
   have hg:=L6.get_data l 0 h0
   have HH:=Lib.hid (show (l.headD 0 != 34) = (((((⟨l.toArray⟩:ByteArray)[0]'h0).toNat:Int)) != 34) by
    rw [hg,Bool.eq_iff_iff,bne_iff_ne,bne_iff_ne]
    cases l with
    | nil=>simp at h0
    | cons a b=>
     simp only [List.headD_cons,List.getD_cons_zero]
     refine not_congr ⟨fun h=>by rw [h];rfl,fun h=>UInt8.toNat_inj.1 ?_⟩
     have:a.toNat = 34:=by omega
     exact this)
   clear hb hne h1 hg
   go_enter Tryz.func164,Tryz.ntmps164
   go_wp2_with (go_at_call 98;refine (cS.out _).mono ?_;rintro e w' ⟨rfl,rfl⟩)
   go_ret
   exact ⟨lret_bool (by rw [HL.out,HH.out];rfl),rfl⟩
 ·have g1:¬ (1:Int) < l.length:=by omega
  have HL:=Lib.hid (show L6.label l = false by unfold L6.label;simp [h1])
  clear h1
  go_enter Tryz.func164,Tryz.ntmps164
  go_wp2_with (go_at_call 98;refine (cS.out _).mono ?_;rintro e w' ⟨rfl,rfl⟩)
  go_ret
  exact ⟨lret_bool HL.out.symm,rfl⟩
theorem lclone_any (v:Value) (l:List (List UInt8)) (w:World) (h:RdS w v l) (hl:l.length≤1000000000) :
  Calls Tryz.prog 165 #[v] w fun e w'=>∃ v',e = .returned v'∧OwnS w.heap.size w' v' l∧Below w.heap.size w w':=by
 cases l with
 | nil=>
  obtain ⟨A,c,rfl⟩:=h.nil_form
  cases A with
  | none=>
   refine (Tryz.slices_Clone_string_nil 0 c w).mono ?_
   rintro e w' ⟨rfl,rfl⟩
   exact ⟨_,rfl,OwnS.nil _ _,Below.refl _ _⟩
  | some a=>
   refine (Tryz.slices_Clone_string_zero a c w).mono ?_
   rintro e w' ⟨v',rfl,h1,_,h3⟩
   exact ⟨_,rfl,h1,h3⟩
 | cons x t=>
  have hpos:0 < (x :: t).length:=by simp
  generalize x :: t = ys at *
  obtain ⟨hl1,A,c,rfl,h2,h3,h4⟩:=h
  obtain ⟨g,off,rfl,hg,hc⟩:=h4 hpos
  refine (Tryz.slices_Clone_string g off ys.length c (ys.map fun y=>⟨y.toArray⟩) w (by simp) (by omega) (fun j hj=>?_)).mono ?_
  ·simp only [List.length_map] at hj
   refine (hc j _ (by simp only [L6.sv];rw [List.getElem?_map,List.getElem?_eq_getElem hj];rfl)).trans ?_
   simp only [List.getD,List.getElem?_map,List.getElem?_eq_getElem hj,Option.map_some,Option.getD_some]
  ·rintro e w' ⟨v',rfl,h1,_,h5⟩
   refine ⟨_,rfl,?_,h5⟩
   unfold OwnS
   have e1:((ys.map fun y=>(⟨y.toArray⟩:ByteArray)).take ys.length).map Value.string = L6.sv ys:=by
    rw [List.take_of_length_le (by simp)];simp [L6.sv]
   rw [e1] at h1
   exact h1
theorem L6.trim_label (x:List UInt8) (h:L6.label x = true):Lib.trimSuffix x [58] = x.dropLast:=by
 unfold L6.label at h
 simp only [Bool.and_eq_true,decide_eq_true_eq] at h
 unfold Lib.trimSuffix
 have hne:x.isEmpty = false:=by cases x with | nil=>simp at h | cons a b=>rfl
 rw [L6.suffix_one,hne,h.2.1,List.dropLast_eq_take]
 simp
theorem own_ne {w:World} {base:Nat} {t:TypeId} {size:Nat} {v:Value} {n:Nat} {xs:List Value} (h:w.ownsRow base t size v n xs) {g:Nat} {t':TypeId} {cs:Array Value} (hb:Bk w g t' cs) (ht:t' ≠ t):v.ownBlock ≠ some g:=by
 rcases h.2 with ⟨rfl,_⟩ | ⟨g',cap,cur,rfl,_,hh,_⟩
 ·simp [Value.ownBlock]
 ·intro e
  simp [Value.ownBlock] at e
  subst e
  exact ht (hb.uniq (t':=t) hh).1
structure LineAt (w:World) (base gx:Nat) (vl:Value) (labs:List (List UInt8)):Prop where
 bk:Bk w gx 105 #[vl,.string ⟨#[]⟩,.slice none 0 0]
 own:OwnS base w vl labs
 ge:base≤gx
theorem OwnS.but {base g:Nat} {w w':World} {v:Value} {l:List (List UInt8)} (h:OwnS base w v l) (hb:But g w w') (hne:v.ownBlock ≠ some g):OwnS base w' v l:=by
 obtain ⟨h1,h2⟩:=h
 refine ⟨h1,?_⟩
 rcases h2 with h2 | ⟨g',cap,cur,rfl,hb',hh,rest⟩
 ·exact .inl h2
 ·exact .inr ⟨g',cap,cur,rfl,hb',(hb.block (Array.getElem?_eq_some_iff.1 hh).1 (fun e=>hne (by simp [Value.ownBlock,e]))).trans hh,rest⟩
theorem L6.line_round {ws:List (List UInt8)} {w wr W1 w3:World} {labs t:List (List UInt8)} {x:List UInt8} {vl v2 v3:Value} {g off c1:Nat}
  (HLA:LineAt wr w.heap.size (w.heap.size+1) vl labs) (HB:Below w.heap.size w wr) (h1:Below wr.heap.size wr W1)
  (HLB:L6.labels ws = labs ++ L6.labels (x :: t)) (HRE:L6.rest ws = L6.rest (x :: t)) (HIN:∀ y ∈ x :: t,y ∈ ws) (HLEN:labs.length+(x :: t).length≤ws.length)
  (hb:L6.label x = true) (HRB:Bk wr w.heap.size 105 #[.slice none 0 0,.string ⟨#[]⟩,.slice none 0 0]) (hgw:g < w.heap.size)
  (HV2:∀ g' off' n' c',v2 = .slice (some ⟨g',off',none⟩) n' c'→g' = g) (HR2:RdS wr v2 t)
  (ho3:w3.ownsRow w.heap.size 9 1 v3 (labs.length+1) (L6.sv labs ++ [.string ⟨x.dropLast.toArray⟩])) (hb3:Below w.heap.size W1 w3) (hg3:W1.grownBy w3 vl.ownBlock)
  (hk3:Bk w3 (w.heap.size+1) 105 #[vl,.string ⟨#[]⟩,.slice none 0 0]) :
  (∃ (labs' rest':List (List UInt8)) (vl':Value),RdS (w3.setCell ⟨w.heap.size+1,0,none⟩ v3) v2 rest'∧LineAt (w3.setCell ⟨w.heap.size+1,0,none⟩ v3) w.heap.size (w.heap.size+1) vl' labs'∧L6.labels ws = labs' ++ L6.labels rest'∧L6.rest ws = L6.rest rest'∧(∀ x ∈ rest',x ∈ ws)∧labs'.length+rest'.length≤ws.length∧Bk (w3.setCell ⟨w.heap.size+1,0,none⟩ v3) w.heap.size 105 #[.slice none 0 0,.string ⟨#[]⟩,.slice none 0 0]∧Below w.heap.size w (w3.setCell ⟨w.heap.size+1,0,none⟩ v3)∧∀ g off n c,v2 = .slice (some ⟨g,off,none⟩) n c→0 < n→g < w.heap.size) ∧
   (match v2 with | .slice _ n _=>n | _=>0) < (match (Value.slice (some ⟨g,off,none⟩) (t.length+1) c1) with | .slice _ n _=>n | _=>0):=by
 have hs0:=HB.size
 have hbut:But (w.heap.size+1) w3 (w3.setCell ⟨w.heap.size+1,0,none⟩ v3):=But.setCell _ _ _ _
 have hw3:Below w.heap.size wr w3:=(h1.mono hs0).trans hb3
 have hfin:Below w.heap.size wr (w3.setCell ⟨w.heap.size+1,0,none⟩ v3):=hw3.setCell (by simp) _
 have hown3:OwnS w.heap.size w3 v3 (labs ++ [x.dropLast]):=by
  unfold OwnS
  simpa [L6.sv] using ho3
 have hR1:Bk W1 w.heap.size 105 #[.slice none 0 0,.string ⟨#[]⟩,.slice none 0 0]:=HRB.kept h1
 have hR3:Bk w3 w.heap.size 105 #[.slice none 0 0,.string ⟨#[]⟩,.slice none 0 0]:=
  (hg3.block _ hR1.lt (fun e=>own_ne (HLA.own.kept h1) hR1 (by decide) e.symm)).trans hR1
 have hlb:L6.labels ws = (labs ++ [x.dropLast]) ++ L6.labels t:=by rw [HLB];simp [L6.labels,hb]
 have hre:L6.rest ws = L6.rest t:=by rw [HRE];simp [L6.rest,hb]
 refine ⟨⟨labs ++ [x.dropLast],t,v3,?_,⟨?_,?_,by omega⟩,hlb,hre,fun y hy=>HIN y (by simp [hy]),?_,?_,HB.trans hfin,fun g' off' n c e _=>by rw [HV2 g' off' n c e];exact hgw⟩,?_⟩
 ·exact Rd.below HR2 hfin (fun k off' c e _=>by rw [HV2 k off' _ c e];exact hgw)
 ·have:=hk3.set 0 v3
  simpa using this
 ·exact hown3.but hbut (own_ne hown3 hk3 (by decide))
 ·simp only [List.length_append,List.length_cons,List.length_nil] at HLEN ⊢;omega
 ·exact hbut.bk hR3 (by omega)
 ·obtain ⟨A2,c2,rfl⟩:=HR2.form;exact Nat.lt_succ_self _
structure Fin2 (s:Nat) (vl va:Value) (labs args:List (List UInt8)) (w w1:World):Prop where
 one:OwnS s w1 vl labs
 two:OwnS s w1 va args
 low:∃ cs,Bk w1 s 105 cs
 high:∃ cs,Bk w1 (s+1) 105 cs
 below:Below s w w1
theorem Fin2.set {s:Nat} {vl va:Value} {labs args:List (List UInt8)} {w w1:World} (h:Fin2 s vl va labs args w w1) (g i:Nat) (hg:g = s ∨ g = s+1) (u:Value):Fin2 s vl va labs args w (w1.setCell ⟨g,i,none⟩ u):=by
 obtain ⟨h1,h2,⟨c1,h3⟩,⟨c2,h4⟩,h5⟩:=h
 have hb:But g w1 (w1.setCell ⟨g,i,none⟩ u):=But.setCell _ _ _ _
 rcases hg with rfl | rfl
 ·exact ⟨h1.but hb (own_ne h1 h3 (by decide)),h2.but hb (own_ne h2 h3 (by decide)),⟨_,h3.set i u⟩,⟨_,hb.bk h4 (by omega)⟩,h5.setCell (Nat.le_refl _) u⟩
 ·exact ⟨h1.but hb (own_ne h1 h4 (by decide)),h2.but hb (own_ne h2 h4 (by decide)),⟨_,hb.bk h3 (by omega)⟩,⟨_,h4.set i u⟩,h5.setCell (by simp) u⟩
set_option maxRecDepth 20000 in
set_option maxHeartbeats 2000000 in
theorem lline_any (v:Value) (ws:List (List UInt8)) (w:World) (h:RdS w v ws) (hl:ws.length≤1000000000) (hs:∀ x ∈ ws,x.length≤1000000000) :
  Calls Tryz.prog 101 #[v] w fun e w'=>∃ vl va,e = .returned (.agg #[vl,.string ⟨(L6.line ws).word.toArray⟩,va])∧OwnS w.heap.size w' vl (L6.line ws).labels∧OwnS w.heap.size w' va (L6.line ws).args∧Below w.heap.size w w':=by
 have HH:=Lib.hid h
 have HLL:=Lib.hid (show ws.length≤1000000000 from hl)
 have HS:=Lib.hid hs
 have HLT:=Lib.hid (show ∀ g off n c,v = .slice (some ⟨g,off,none⟩) n c→0 < n→g < w.heap.size from fun g off n c e hn=>by
  obtain ⟨_,A',c',e',_,_,h4⟩:=HH.out
  rw [e] at e'
  injection e' with e1 e2 e3
  obtain ⟨g',off',e4,hg',_⟩:=h4 (by omega)
  rw [e4] at e1
  injection e1 with e1
  injection e1 with e1
  omega)
 obtain ⟨A,c,rfl⟩:=h.form
 clear h hs
 go_enter Tryz.func101,Tryz.ntmps101
 go_wp2_with fail
 have HB0:=Lib.hid (show Below w.heap.size w ((w.alloc (.cells #[.slice none 0 0,.string ⟨#[]⟩,.slice none 0 0] 105)).alloc (.cells #[.slice none 0 0,.string ⟨#[]⟩,.slice none 0 0] 105)) from ((Below.refl _ _).alloc (Nat.le_refl _) _).alloc (by simp) _)
 have HK0:=Lib.hid (show Bk ((w.alloc (.cells #[.slice none 0 0,.string ⟨#[]⟩,.slice none 0 0] 105)).alloc (.cells #[.slice none 0 0,.string ⟨#[]⟩,.slice none 0 0] 105)) (w.heap.size+1) 105 #[.slice none 0 0,.string ⟨#[]⟩,.slice none 0 0] from by
  have:=Bk.fresh (w.alloc (.cells #[.slice none 0 0,.string ⟨#[]⟩,.slice none 0 0] 105)) 105 #[.slice none 0 0,.string ⟨#[]⟩,.slice none 0 0]
  rwa [World.size_alloc] at this)
 have HR0:=Lib.hid (show Bk ((w.alloc (.cells #[.slice none 0 0,.string ⟨#[]⟩,.slice none 0 0] 105)).alloc (.cells #[.slice none 0 0,.string ⟨#[]⟩,.slice none 0 0] 105)) w.heap.size 105 #[.slice none 0 0,.string ⟨#[]⟩,.slice none 0 0] from
  (Bk.fresh w _ _).kept ((Below.refl _ _).alloc (Nat.le_refl _) _))
 go_loopw [0] (fun s wr=>∃ (labs rest:List (List UInt8)) (vl:Value),RdS wr s rest∧LineAt wr w.heap.size (w.heap.size+1) vl labs∧L6.labels ws = labs ++ L6.labels rest∧L6.rest ws = L6.rest rest∧(∀ x ∈ rest,x ∈ ws)∧labs.length+rest.length≤ws.length∧Bk wr w.heap.size 105 #[.slice none 0 0,.string ⟨#[]⟩,.slice none 0 0]∧Below w.heap.size w wr∧∀ g off n c,s = .slice (some ⟨g,off,none⟩) n c→0 < n→g < w.heap.size) (fun s _=>match s with | .slice _ n _=>n | _=>0)
 case atStart=>exact ⟨[],ws,.slice none 0 0,HH.out.kept HB0.out,⟨HK0.out,OwnS.nil _ _,by omega⟩,rfl,rfl,fun x hx=>hx,by simp,HR0.out,HB0.out,HLT.out⟩
 case round=>
  obtain ⟨labs,rest,vl,hrd,hla,hlb,hre,hin,hlen,hrb,hbr,hgl⟩:=hrel
  have HGL:=Lib.hid hgl
  clear hgl
  have HRD:=Lib.hid hrd
  have HLA:=Lib.hid hla
  have HLB:=Lib.hid hlb
  have HRE:=Lib.hid hre
  have HIN:=Lib.hid hin
  have HLEN:=Lib.hid hlen
  have HRB:=Lib.hid hrb
  have HBR:=Lib.hid hbr
  clear hla hlb hre hin hlen hrb hbr
  cases rest with
  | nil=>
   obtain ⟨A1,c1,rfl⟩:=hrd.nil_form
   clear hrd
   obtain ⟨AV,cV,rfl⟩:=HLA.out.own.form
   have k0:wr.cell? ⟨w.heap.size+1,0,none⟩ = some (.slice AV labs.length cV):=HLA.out.bk.cell 0
   have k1:wr.cell? ⟨w.heap.size+1,1,none⟩ = some (.string ⟨#[]⟩):=HLA.out.bk.cell 1
   have k2:wr.cell? ⟨w.heap.size+1,2,none⟩ = some (.slice none 0 0):=HLA.out.bk.cell 2
   have z0:wr.cell? ⟨w.heap.size,0,none⟩ = some (.slice none 0 0):=HRB.out.cell 0
   have z1:wr.cell? ⟨w.heap.size,1,none⟩ = some (.string ⟨#[]⟩):=HRB.out.cell 1
   have z2:wr.cell? ⟨w.heap.size,2,none⟩ = some (.slice none 0 0):=HRB.out.cell 2
   have y0:=HRB.out.free 0
   have y1:=HRB.out.free 1
   have y2:=HRB.out.free 2
   go_wp2_with fail
   refine bodyPost_ret (v:=.agg #[.slice AV labs.length cV,.string ⟨#[]⟩,.slice none 0 0]) (by simp [results,Tryz.results101,go_sem,z0,z1,z2]) rfl ?_
   have e1:L6.line ws = ⟨labs,[],[]⟩:=by unfold L6.line;rw [HLB.out,HRE.out];simp [L6.labels,L6.rest]
   rw [e1]
   have hF:Fin2 w.heap.size (.slice AV labs.length cV) (.slice none 0 0) labs [] w wr:=⟨HLA.out.own,OwnS.nil _ _,⟨_,HRB.out⟩,⟨_,HLA.out.bk⟩,HBR.out⟩
   have hF:=((hF.set w.heap.size 0 (.inl rfl) (.slice AV labs.length cV)).set w.heap.size 1 (.inl rfl) (.string ⟨#[]⟩)).set w.heap.size 2 (.inl rfl) (.slice none 0 0)
   exact ⟨_,_,rfl,hF.one,hF.two,hF.below⟩
  | cons x t=>
   obtain ⟨g,off,c1,rfl,hc1,hc2,hg,hcell,v2,hsl,hr2,hv2⟩:=hrd.cons
   have hgw:g < w.heap.size:=HGL.out g off _ c1 rfl (by omega)
   have HV2:=Lib.hid hv2
   clear hv2
   have HR2:=Lib.hid hr2
   clear hrd hr2
   unfold maxLen at hc2
   have hx:=HS.out x (HIN.out x (by simp))
   have CL:=Lib.hid (fun W=>llabel_any x W (by unfold maxLen;omega))
   cases hb:L6.label x
   ·rw [hb] at CL
    have HX:=Lib.hid hb
    clear hb
    have hcap:=hc2
    obtain ⟨AV,cV,rfl⟩:=HLA.out.own.form
    have CC:=Lib.hid (fun W (hW:Below wr.heap.size wr W)=>lclone_any v2 t W (HR2.out.kept hW) (by have h1:=HLEN.out;have h2:=HLL.out;simp only [List.length_cons] at h1;omega))
    have KB:=Lib.hid (show ∀ W,Below wr.heap.size wr W→Bk W (w.heap.size+1) 105 #[.slice AV labs.length cV,.string ⟨#[]⟩,.slice none 0 0]∧Bk W w.heap.size 105 #[.slice none 0 0,.string ⟨#[]⟩,.slice none 0 0] from fun W hW=>⟨HLA.out.bk.kept hW,HRB.out.kept hW⟩)
    have e1:L6.line ws = ⟨labs,x,t⟩:=by unfold L6.line;rw [HLB.out,HRE.out];simp [L6.labels,L6.rest,HX.out]
    have E1:=Lib.hid e1
    clear e1
    have hne:w.heap.size+1 ≠ g:=by omega
    go_wp2_with (go_at_call 164;refine (CL.out _).mono ?_;rintro e w' ⟨rfl,rfl⟩)
    go_region_held3 (fun W'=>W'.cell? ⟨g,off,none⟩ = some (.string ⟨x.toArray⟩)) (go_keep)
     ((go_at_call 165;refine (CC.out _ (Below.refl _ _).drew).mono ?_;rintro e w2 ⟨va,rfl,ho2,hb2⟩;have q2:=(hb2.cell (p:=⟨g,off,none⟩) hg).trans hcell;obtain ⟨hx1,hx0⟩:=KB.out w2 ((Below.refl _ _).drew.trans hb2);have k0:=hx1.cell 0;have k1:=hx1.cell 1;have k2:=hx1.cell 2;have f1:=hx1.free 1;have f2:=hx1.free 2;have z0:=hx0.cell 0;have z1:=hx0.cell 1;have z2:=hx0.cell 2;have y0:=hx0.free 0;have y1:=hx0.free 1;have y2:=hx0.free 2;obtain ⟨AA,cA,rfl⟩:=ho2.form))
    go_wp2_with fail
    refine bodyPost_ret (v:=.agg #[.slice AV labs.length cV,.string ⟨x.toArray⟩,.slice AA t.length cA]) (by simp [results,Tryz.results101,go_sem,z0,z1,z2]) rfl ?_
    have hb3:=(Below.refl wr.heap.size wr).drew.trans hb2
    have hF:Fin2 w.heap.size (.slice AV labs.length cV) (.slice AA t.length cA) labs t w w2:=⟨HLA.out.own.kept hb3,own_rebase ho2 HBR.out.size,⟨_,hx0⟩,⟨_,hx1⟩,HBR.out.trans (hb3.mono HBR.out.size)⟩
    have hF:=((((hF.set (w.heap.size+1) 1 (.inr rfl) (.string ⟨x.toArray⟩)).set (w.heap.size+1) 2 (.inr rfl) (.slice AA t.length cA)).set w.heap.size 0 (.inl rfl) (.slice AV labs.length cV)).set w.heap.size 1 (.inl rfl) (.string ⟨x.toArray⟩)).set w.heap.size 2 (.inl rfl) (.slice AA t.length cA)
    rw [E1.out]
    exact ⟨_,_,rfl,hF.one,hF.two,hF.below⟩
   ·rw [hb] at CL
    have HX:=Lib.hid hb
    have CT:=Lib.hid (fun W=>Tryz.strings_TrimSuffix ⟨x.toArray⟩ ⟨#[58]⟩ W (by simp [ByteArray.size];omega))
    rw [show Lib.trimSuffix (⟨x.toArray⟩:ByteArray).data.toList (⟨#[58]⟩:ByteArray).data.toList = x.dropLast from L6.trim_label x hb] at CT
    clear hb
    have k0:wr.cell? ⟨w.heap.size+1,0,none⟩ = some vl:=HLA.out.bk.cell 0
    have f0:=HLA.out.bk.free 0
    have HO1:=Lib.hid (show (wr.drew.alloc (.cells #[.string ⟨x.dropLast.toArray⟩] 9)).ownsRow w.heap.size 9 1 vl labs.length (L6.sv labs) from
     (HLA.out.own.kept (Below.refl _ _).drew).kept ((Below.refl _ _).alloc (Nat.le_refl _) _))
    have HS1:=Lib.hid (show Src Tryz.prog 1 61 (.slice (some ⟨wr.heap.size,0,none⟩) 1 1) 1 [.string ⟨x.dropLast.toArray⟩] (wr.drew.alloc (.cells #[.string ⟨x.dropLast.toArray⟩] 9)) from src_one wr.drew x.dropLast)
    have HL1:=Lib.hid (show (labs.length+1) * 16≤140737488355328 by have:=HLEN.out;have:=HLL.out;simp at *;omega)
    have HL2:=Lib.hid (show labs.length+1≤maxLen by have:=HLEN.out;have:=HLL.out;unfold maxLen;simp at *;omega)
    have HZ1:=Lib.hid (show w.heap.size≤(wr.drew.alloc (.cells #[.string ⟨x.dropLast.toArray⟩] 9)).heap.size from by have:=HBR.out.size;simp;omega)
    have KEEP:=Lib.hid (show ∀ w3,(wr.drew.alloc (.cells #[.string ⟨x.dropLast.toArray⟩] 9)).grownBy w3 vl.ownBlock→Bk w3 (w.heap.size+1) 105 #[vl,.string ⟨#[]⟩,.slice none 0 0] from fun w3 hg3=>by
     have hb:Bk (wr.drew.alloc (.cells #[.string ⟨x.dropLast.toArray⟩] 9)) (w.heap.size+1) 105 #[vl,.string ⟨#[]⟩,.slice none 0 0]:=(HLA.out.bk.kept (Below.refl _ _).drew).kept ((Below.refl _ _).alloc (Nat.le_refl _) _)
     exact (hg3.block _ hb.lt (fun e=>own_ne HO1.out hb (by decide) e.symm)).trans hb)
    have KEEP2:=Lib.hid (show ∀ w3,Below w.heap.size (wr.drew.alloc (.cells #[.string ⟨x.dropLast.toArray⟩] 9)) w3→w3.cell? ⟨g,off,none⟩ = some (.string ⟨x.toArray⟩) from fun w3 hb3=>
     (hb3.cell (p:=⟨g,off,none⟩) hgw).trans ((((Below.refl wr.heap.size wr).drew.alloc (Nat.le_refl _) _).cell (p:=⟨g,off,none⟩) hg).trans hcell))
    go_wp2_with (go_at_call 164;refine (CL.out _).mono ?_;rintro e w' ⟨rfl,rfl⟩)
    have ka:(wr.alloc (.cells #[.string ⟨x.dropLast.toArray⟩] 9)).cell? ⟨w.heap.size+1,0,none⟩ = some vl:=(HLA.out.bk.kept ((Below.refl _ _).alloc (Nat.le_refl _) _)).cell 0
    go_region_law (first
      | (refine step_appendR (by rfl) _ _ _ _ (by rfl) lsrt (by decide) w.heap.size vl (by rfl) labs.length (L6.sv labs) HO1.out _ (by rfl) 1 [.string ⟨x.dropLast.toArray⟩] HS1.out HL1.out HL2.out HZ1.out ?_;intro v3 w3 ho3 hb3 hg3;obtain ⟨A3,c3,rfl⟩:=(Rd.of_own ho3).form;have hk3:=KEEP.out w3 hg3;have k3:=hk3.cell 0;have f3:=hk3.free 0;have q3:=KEEP2.out w3 hb3)
      | (rw [if_pos (by rfl)];go_simp;go_at_call 63;refine (CT.out _).mono ?_;rintro e w' ⟨rfl,rfl⟩))
    all_goals go_wp2_with fail
    all_goals exact L6.line_round (off:=off) (c1:=c1) HLA.out HBR.out ((Below.refl _ _).drew.alloc (Nat.le_refl _) _) HLB.out HRE.out HIN.out HLEN.out HX.out HRB.out hgw HV2.out HR2.out ho3 hb3 hg3 hk3
end Go.Proofs.YtpcpaoeajcjoiaaGreatDoor
