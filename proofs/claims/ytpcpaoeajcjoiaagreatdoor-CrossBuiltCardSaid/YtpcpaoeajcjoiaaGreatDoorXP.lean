/- Texts joined, what is not reached left out. -/
import Derived.Test.YtpcpaoeajcjoiaaGreatDoorXO
import Derived.Test.YtpcpaoeajcjoiaaGreatDoorXM
import Derived.Test.YtpcpaoeajcjoiaaGreatDoorQL6Parse
import Derived.Test.YtpcpaoeajcjoiaaGreatDoorCP
import Derived.Test.YtpcpaoeajcjoiaaGreatDoorNP
import Derived.Test.YtpcpaoeajcjoiaaGreatDoorLT
set_option linter.unusedVariables false
set_option linter.unusedSimpArgs false
namespace Go.Proofs.YtpcpaoeajcjoiaaGreatDoor
open Go.RowKit Kit
set_option maxRecDepth 100000 in
set_option maxHeartbeats 4000000 in
theorem xin_Semi {F : Nat → Prop} {w : World} {gm : Nat} {tag : List UInt8} {S : Xc.S} (h : Xc.Mk F w gm tag S) (hne : S.words ≠ []) (hok : Xc.Ok 0 S) (hT : Xc.Tb F w) (ht : tag.length ≤ 31) (hb : Xc.begins tag [59] S = none) (he : Xc.ends tag [59] S = none) (hm : Xc.makes [59] = none) :
  Calls Tryz.prog 122 #[.pointer (some ⟨gm,0,none⟩),.string ⟨#[59]⟩] w (Xc.RPost F w gm tag (Xc.inside2 [59] S)):=by
 have CB:=Lib.hid (xbegins_any h hne (hok.mono (by omega)) hT ht [59])
 have CE:=Lib.hid (xends_any h hne (hok.mono (by omega)) hT ht [59])
 have CM:=Lib.hid (fun W=>xmakes_any [59] W)
 rw [hb] at CB
 rw [he] at CE
 rw [hm] at CM
 have HM:=Lib.hid h
 have HNE:=Lib.hid hne
 have HOK:=Lib.hid hok
 have f3:=h.seen.f 3
 have d3:=h.seen.c3
 cases hS : S.opens with
 | nil=>
  have HP:=Lib.hid (show Xc.inside2 Xc.tSemi S = .ok (Xc.leave (Xc.inIt false S)) from by unfold Xc.inside2;rw [if_pos rfl,hS];rfl)
  obtain ⟨vw,vo,cs,h1,_,_,_,h5,_⟩:=h.obj
  rw [hS] at h5
  obtain ⟨A,cc,rfl⟩:=(Rd.of_own h5).form
  have c5:=h1.cell 5
  simp only [Xc.cells,List.getElem?_toArray,List.getElem?_cons_succ,List.getElem?_cons_zero,List.length_nil] at c5
  obtain ⟨m1,s1⟩:=h.setF 3 (.bool false) (S':=Xc.inIt false S) rfl rfl (fun vw vo=>by simp [Xc.cells,Xc.inIt])
  have CL:=Lib.hid (xleave_any m1 hne ((hok.inIt false).mono (by omega)))
  have HST:=Lib.hid s1
  clear h hne hok hT ht hb he hm hS h1 h5 m1 s1
  go_enter Tryz.func122,Tryz.ntmps122
  go_wp2_with (first | (go_at_call 182;refine CB.out.mono ?_;rintro e w' ⟨rfl,rfl⟩) | (go_at_call 183;refine CE.out.mono ?_;rintro e w' ⟨rfl,rfl⟩) | (go_at_call 184;refine (CM.out _).mono ?_;rintro e w' ⟨rfl,rfl⟩) | (go_at_call 185;refine CL.out.mono ?_;rintro e w2 ⟨rfl,F2,hm2,st2⟩))
  go_ret
  rw [show ([59] : List UInt8) = Xc.tSemi from rfl,HP.out]
  exact ⟨rfl,F2,hm2,HST.out.trans st2⟩
 | cons p r=>
  have HP:=Lib.hid (show Xc.inside2 Xc.tSemi S = .bad 44 from by unfold Xc.inside2;rw [if_pos rfl,hS];rfl)
  obtain ⟨vw,gw,cap,h1,hnc,hcm,hgw,e0,e1,htop⟩:=h.pop hS
  have c5:=h1.cell 5
  simp only [Xc.cells,List.getElem?_toArray,List.getElem?_cons_succ,List.getElem?_cons_zero] at c5
  have hgt : (0 : Int) < ((r.length + 1 : Nat) : Int):=by omega
  have hgt' : (0 : Int) < (r.length : Int) + 1:=by omega
  clear h hne hok hT ht hb he hm hS h1 htop e0 e1
  go_enter Tryz.func122,Tryz.ntmps122
  go_wp2_with (first | (go_at_call 182;refine CB.out.mono ?_;rintro e w' ⟨rfl,rfl⟩) | (go_at_call 183;refine CE.out.mono ?_;rintro e w' ⟨rfl,rfl⟩) | (go_at_call 184;refine (CM.out _).mono ?_;rintro e w' ⟨rfl,rfl⟩))
  go_ret
  rw [show ([59] : List UInt8) = Xc.tSemi from rfl,HP.out]
  exact ⟨rfl,F,Step.refl F w⟩
set_option maxRecDepth 100000 in
set_option maxHeartbeats 4000000 in
theorem xin_Exit {F : Nat → Prop} {w : World} {gm : Nat} {tag : List UInt8} {S : Xc.S} (h : Xc.Mk F w gm tag S) (hne : S.words ≠ []) (hok : Xc.Ok 0 S) (hT : Xc.Tb F w) (ht : tag.length ≤ 31) (hb : Xc.begins tag [69,88,73,84] S = none) (he : Xc.ends tag [69,88,73,84] S = none) (hm : Xc.makes [69,88,73,84] = none) :
  Calls Tryz.prog 122 #[.pointer (some ⟨gm,0,none⟩),.string ⟨#[69,88,73,84]⟩] w (Xc.RPost F w gm tag (Xc.inside2 [69,88,73,84] S)):=by
 have CB:=Lib.hid (xbegins_any h hne (hok.mono (by omega)) hT ht [69,88,73,84])
 have CE:=Lib.hid (xends_any h hne (hok.mono (by omega)) hT ht [69,88,73,84])
 have CM:=Lib.hid (fun W=>xmakes_any [69,88,73,84] W)
 rw [hb] at CB
 rw [he] at CE
 rw [hm] at CM
 have CL:=Lib.hid (xleave_any h hne (hok.mono (by omega)))
 have HP:=Lib.hid (show Xc.inside2 Xc.tExit S = .ok (Xc.leave S) from by unfold Xc.inside2;rw [if_neg (by decide),if_pos rfl])
 clear h hne hok hT ht hb he hm
 go_enter Tryz.func122,Tryz.ntmps122
 go_wp2_with (first | (go_at_call 182;refine CB.out.mono ?_;rintro e w' ⟨rfl,rfl⟩) | (go_at_call 183;refine CE.out.mono ?_;rintro e w' ⟨rfl,rfl⟩) | (go_at_call 184;refine (CM.out _).mono ?_;rintro e w' ⟨rfl,rfl⟩) | (go_at_call 185;refine CL.out.mono ?_;rintro e w2 ⟨rfl,F2,hm2,st2⟩))
 go_ret
 rw [show ([69,88,73,84] : List UInt8) = Xc.tExit from rfl,HP.out]
 exact ⟨rfl,F2,hm2,st2⟩
set_option maxRecDepth 100000 in
set_option maxHeartbeats 4000000 in
theorem xin_Rec {F : Nat → Prop} {w : World} {gm : Nat} {tag : List UInt8} {S : Xc.S} (h : Xc.Mk F w gm tag S) (hne : S.words ≠ []) (hok : Xc.Ok 0 S) (hT : Xc.Tb F w) (ht : tag.length ≤ 31) (hb : Xc.begins tag [82,69,67,85,82,83,69] S = none) (he : Xc.ends tag [82,69,67,85,82,83,69] S = none) (hm : Xc.makes [82,69,67,85,82,83,69] = none) :
  Calls Tryz.prog 122 #[.pointer (some ⟨gm,0,none⟩),.string ⟨#[82,69,67,85,82,83,69]⟩] w (Xc.RPost F w gm tag (Xc.inside2 [82,69,67,85,82,83,69] S)):=by
 have CB:=Lib.hid (xbegins_any h hne (hok.mono (by omega)) hT ht [82,69,67,85,82,83,69])
 have CE:=Lib.hid (xends_any h hne (hok.mono (by omega)) hT ht [82,69,67,85,82,83,69])
 have CM:=Lib.hid (fun W=>xmakes_any [82,69,67,85,82,83,69] W)
 rw [hb] at CB
 rw [he] at CE
 rw [hm] at CM
 have d4:=h.seen.c4
 have HM:=Lib.hid h
 have HNE:=Lib.hid hne
 have HOK:=Lib.hid hok
 obtain ⟨z,hz⟩ : ∃ z,Xc.lCall ++ Xc.label0 S.name = z:=⟨_,rfl⟩
 have ez : (⟨#[99,97,108,108,32]⟩ : ByteArray) ++ ⟨(Xc.label0 S.name).toArray⟩ = ⟨z.toArray⟩:=by rw [← hz];exact app_eq Xc.lCall _
 have hll : (Xc.label0 S.name).length ≤ 100002:=by have:=hok.name;unfold Xc.label0 Xc.lZero;simp only [List.length_append,List.length_cons,List.length_nil] at *;omega
 have hsum : ¬ 9223372036854775807 < 5 + (Xc.label0 S.name).length:=by omega
 have CLB:=Lib.hid (fun W=>xlabel0_any S.name W hok.name)
 have HP:=Lib.hid (show Xc.inside2 Xc.tRec S = .ok (Xc.put [z] S) from by unfold Xc.inside2;rw [if_neg (by decide),if_neg (by decide),if_pos rfl,hz])
 clear h hne hok hT ht hb he hm hz hll
 generalize Xc.label0 S.name = lb at *
 go_enter Tryz.func122,Tryz.ntmps122
 go_wp2_with (first | (go_at_call 182;refine CB.out.mono ?_;rintro e w' ⟨rfl,rfl⟩) | (go_at_call 183;refine CE.out.mono ?_;rintro e w' ⟨rfl,rfl⟩) | (go_at_call 184;refine (CM.out _).mono ?_;rintro e w' ⟨rfl,rfl⟩) | (go_at_call 25;refine (CLB.out _).mono ?_;rintro e w2 ⟨rfl,hb2⟩))
 have HM2:=Lib.hid (HM.out.kept hb2)
 have hbe4 : Below w2.heap.size w2 (w2.alloc (.cells #[.string ⟨z.toArray⟩] 9)):=(Below.refl _ _).alloc (Nat.le_refl _) _
 have C4:=Lib.hid (show Calls Tryz.prog 65 #[.pointer (some ⟨gm,0,none⟩),.slice (some ⟨w2.heap.size,0,none⟩) 1 1] (w2.alloc (.cells #[.string ⟨z.toArray⟩] 9)) fun e w'=>e = .returned (.tuple #[]) ∧ Xc.To F (w2.alloc (.cells #[.string ⟨z.toArray⟩] 9)) gm tag (Xc.put [z] (S)) w' from
  xput_any (HM2.out.kept hbe4) HNE.out (HOK.out.mono (by omega)) (.slice (some ⟨w2.heap.size,0,none⟩) 1 1) [z] (rd_new [z] (Bk.fresh w2 _ _) (by simp)) (by simp))
 have HBE4:=Lib.hid hbe4
 clear hbe4
 go_wp2_with (go_at_call 65;refine C4.out.mono ?_)
 rintro e w4 ⟨rfl,F4,hm4,st4⟩
 go_wp2_with fail
 go_ret
 rw [show ([82,69,67,85,82,83,69] : List UInt8) = Xc.tRec from rfl,HP.out]
 exact ⟨rfl,F4,hm4,(Step.of_below hb2).trans ((Step.of_below HBE4.out).trans st4)⟩
set_option maxRecDepth 100000 in
set_option maxHeartbeats 4000000 in
theorem xin_Tick {F : Nat → Prop} {w : World} {gm : Nat} {tag : List UInt8} {S : Xc.S} (h : Xc.Mk F w gm tag S) (hne : S.words ≠ []) (hok : Xc.Ok 0 S) (hT : Xc.Tb F w) (ht : tag.length ≤ 31) (hb : Xc.begins tag [91,39,93] S = none) (he : Xc.ends tag [91,39,93] S = none) (hm : Xc.makes [91,39,93] = none) :
  Calls Tryz.prog 122 #[.pointer (some ⟨gm,0,none⟩),.string ⟨#[91,39,93]⟩] w (Xc.RPost F w gm tag (Xc.inside2 [91,39,93] S)):=by
 have CB:=Lib.hid (xbegins_any h hne (hok.mono (by omega)) hT ht [91,39,93])
 have CE:=Lib.hid (xends_any h hne (hok.mono (by omega)) hT ht [91,39,93])
 have CM:=Lib.hid (fun W=>xmakes_any [91,39,93] W)
 rw [hb] at CB
 rw [he] at CE
 rw [hm] at CM
 have CQ:=Lib.hid (xquoted_any h hne (hok.mono (by omega)) hT Xc.tTick (by first | exact .inl rfl | exact .inr rfl))
 have HP:=Lib.hid (show Xc.inside2 Xc.tTick S = Xc.quoted Xc.tTick S from by unfold Xc.inside2;rw [if_neg (by decide),if_neg (by decide),if_neg (by decide),if_neg (by decide),if_pos (by first | exact .inl rfl | exact .inr rfl)])
 clear h hne hok hT ht hb he hm
 generalize Xc.quoted Xc.tTick S = r at *
 cases r with
 | stuck=>
  go_enter Tryz.func122,Tryz.ntmps122
  go_wp2_with (first | (go_at_call 182;refine CB.out.mono ?_;rintro e w' ⟨rfl,rfl⟩) | (go_at_call 183;refine CE.out.mono ?_;rintro e w' ⟨rfl,rfl⟩) | (go_at_call 184;refine (CM.out _).mono ?_;rintro e w' ⟨rfl,rfl⟩) | (go_at_call 187;refine CQ.out.mono ?_;rintro e w2 hpost;exact absurd hpost id))
 | bad n=>
  go_enter Tryz.func122,Tryz.ntmps122
  go_wp2_with (first | (go_at_call 182;refine CB.out.mono ?_;rintro e w' ⟨rfl,rfl⟩) | (go_at_call 183;refine CE.out.mono ?_;rintro e w' ⟨rfl,rfl⟩) | (go_at_call 184;refine (CM.out _).mono ?_;rintro e w' ⟨rfl,rfl⟩) | (go_at_call 187;refine CQ.out.mono ?_;rintro e w2 ⟨rfl,F2,st2⟩))
  go_ret
  rw [show ([91,39,93] : List UInt8) = Xc.tTick from rfl,HP.out]
  exact ⟨rfl,F2,st2⟩
 | ok S1=>
  go_enter Tryz.func122,Tryz.ntmps122
  go_wp2_with (first | (go_at_call 182;refine CB.out.mono ?_;rintro e w' ⟨rfl,rfl⟩) | (go_at_call 183;refine CE.out.mono ?_;rintro e w' ⟨rfl,rfl⟩) | (go_at_call 184;refine (CM.out _).mono ?_;rintro e w' ⟨rfl,rfl⟩) | (go_at_call 187;refine CQ.out.mono ?_;rintro e w2 ⟨rfl,F2,hm2,st2⟩))
  go_ret
  rw [show ([91,39,93] : List UInt8) = Xc.tTick from rfl,HP.out]
  exact ⟨rfl,F2,hm2,st2⟩
set_option maxRecDepth 100000 in
set_option maxHeartbeats 4000000 in
theorem xin_Char {F : Nat → Prop} {w : World} {gm : Nat} {tag : List UInt8} {S : Xc.S} (h : Xc.Mk F w gm tag S) (hne : S.words ≠ []) (hok : Xc.Ok 0 S) (hT : Xc.Tb F w) (ht : tag.length ≤ 31) (hb : Xc.begins tag [91,67,72,65,82,93] S = none) (he : Xc.ends tag [91,67,72,65,82,93] S = none) (hm : Xc.makes [91,67,72,65,82,93] = none) :
  Calls Tryz.prog 122 #[.pointer (some ⟨gm,0,none⟩),.string ⟨#[91,67,72,65,82,93]⟩] w (Xc.RPost F w gm tag (Xc.inside2 [91,67,72,65,82,93] S)):=by
 have CB:=Lib.hid (xbegins_any h hne (hok.mono (by omega)) hT ht [91,67,72,65,82,93])
 have CE:=Lib.hid (xends_any h hne (hok.mono (by omega)) hT ht [91,67,72,65,82,93])
 have CM:=Lib.hid (fun W=>xmakes_any [91,67,72,65,82,93] W)
 rw [hb] at CB
 rw [he] at CE
 rw [hm] at CM
 have CQ:=Lib.hid (xquoted_any h hne (hok.mono (by omega)) hT Xc.tChar (by first | exact .inl rfl | exact .inr rfl))
 have HP:=Lib.hid (show Xc.inside2 Xc.tChar S = Xc.quoted Xc.tChar S from by unfold Xc.inside2;rw [if_neg (by decide),if_neg (by decide),if_neg (by decide),if_neg (by decide),if_pos (by first | exact .inl rfl | exact .inr rfl)])
 clear h hne hok hT ht hb he hm
 generalize Xc.quoted Xc.tChar S = r at *
 cases r with
 | stuck=>
  go_enter Tryz.func122,Tryz.ntmps122
  go_wp2_with (first | (go_at_call 182;refine CB.out.mono ?_;rintro e w' ⟨rfl,rfl⟩) | (go_at_call 183;refine CE.out.mono ?_;rintro e w' ⟨rfl,rfl⟩) | (go_at_call 184;refine (CM.out _).mono ?_;rintro e w' ⟨rfl,rfl⟩) | (go_at_call 187;refine CQ.out.mono ?_;rintro e w2 hpost;exact absurd hpost id))
 | bad n=>
  go_enter Tryz.func122,Tryz.ntmps122
  go_wp2_with (first | (go_at_call 182;refine CB.out.mono ?_;rintro e w' ⟨rfl,rfl⟩) | (go_at_call 183;refine CE.out.mono ?_;rintro e w' ⟨rfl,rfl⟩) | (go_at_call 184;refine (CM.out _).mono ?_;rintro e w' ⟨rfl,rfl⟩) | (go_at_call 187;refine CQ.out.mono ?_;rintro e w2 ⟨rfl,F2,st2⟩))
  go_ret
  rw [show ([91,67,72,65,82,93] : List UInt8) = Xc.tChar from rfl,HP.out]
  exact ⟨rfl,F2,st2⟩
 | ok S1=>
  go_enter Tryz.func122,Tryz.ntmps122
  go_wp2_with (first | (go_at_call 182;refine CB.out.mono ?_;rintro e w' ⟨rfl,rfl⟩) | (go_at_call 183;refine CE.out.mono ?_;rintro e w' ⟨rfl,rfl⟩) | (go_at_call 184;refine (CM.out _).mono ?_;rintro e w' ⟨rfl,rfl⟩) | (go_at_call 187;refine CQ.out.mono ?_;rintro e w2 ⟨rfl,F2,hm2,st2⟩))
  go_ret
  rw [show ([91,67,72,65,82,93] : List UInt8) = Xc.tChar from rfl,HP.out]
  exact ⟨rfl,F2,hm2,st2⟩
set_option maxRecDepth 100000 in
set_option maxHeartbeats 4000000 in
theorem xin_Other {F : Nat → Prop} {w : World} {gm : Nat} {tag : List UInt8} {S : Xc.S} (h : Xc.Mk F w gm tag S) (hne : S.words ≠ []) (hok : Xc.Ok 0 S) (hT : Xc.Tb F w) (ht : tag.length ≤ 31) (c : List UInt8) (hcl : c.length ≤ 100000) (hSemi : c ≠ [59]) (hExit : c ≠ [69,88,73,84]) (hRec : c ≠ [82,69,67,85,82,83,69]) (hText : c ≠ [83,34]) (hTick : c ≠ [91,39,93]) (hChar : c ≠ [91,67,72,65,82,93]) (hb : Xc.begins tag c S = none) (he : Xc.ends tag c S = none) (hm : Xc.makes c = none) :
  Calls Tryz.prog 122 #[.pointer (some ⟨gm,0,none⟩),.string ⟨c.toArray⟩] w (Xc.RPost F w gm tag (Xc.inside2 c S)):=by
 have CB:=Lib.hid (xbegins_any h hne (hok.mono (by omega)) hT ht c)
 have CE:=Lib.hid (xends_any h hne (hok.mono (by omega)) hT ht c)
 have CM:=Lib.hid (fun W=>xmakes_any c W)
 rw [hb] at CB
 rw [he] at CE
 rw [hm] at CM
 have eSemi : (c == [59]) = false:=by simpa using hSemi
 have eExit : (c == [69,88,73,84]) = false:=by simpa using hExit
 have eRec : (c == [82,69,67,85,82,83,69]) = false:=by simpa using hRec
 have eText : (c == [83,34]) = false:=by simpa using hText
 have eTick : (c == [91,39,93]) = false:=by simpa using hTick
 have eChar : (c == [91,67,72,65,82,93]) = false:=by simpa using hChar
 have CN:=Lib.hid (fun W=>lnumber_any c W (by unfold maxLen;omega))
 cases hnv : (L6.number c).2
 ·by_cases h1 : 1 < c.length
  ·by_cases h38 : c.getD 0 0 = 38
   ·obtain ⟨z,hz⟩ : ∃ z,Xc.lLa ++ c = z:=⟨_,rfl⟩
    have ez : (⟨#[108,97,32,116,48,32]⟩ : ByteArray) ++ ⟨c.toArray⟩ = ⟨z.toArray⟩:=by rw [← hz];exact app_eq Xc.lLa _
    have hsum : ¬ 9223372036854775807 < 6 + c.length:=by omega
    have HZL:=Lib.hid (show z.length ≤ 500000 from by rw [← hz,List.length_append];simp only [Xc.lLa,List.length_cons,List.length_nil];omega)
    have CP:=Lib.hid (xpush_any h hne (hok.mono (by omega)) z HZL.out)
    have HP:=Lib.hid (show Xc.inside2 c S = .ok (Xc.push z S) from by unfold Xc.inside2;rw [if_neg (show ¬ c = Xc.tSemi from hSemi),if_neg (show ¬ c = Xc.tExit from hExit),if_neg (show ¬ c = Xc.tRec from hRec),if_neg (show ¬ c = Xc.tText from hText),if_neg (fun h=>h.elim hTick hChar)];unfold Xc.other;rw [if_neg (by rw [hnv];decide),if_pos ⟨h1,h38⟩,hz])
    have h0 : 0 < c.length:=by omega
    have hpos : (1 : Int) < (c.length : Int):=by omega
    have hpos0 : (0 : Int) < (c.length : Int):=by omega
    have e38 : ((((⟨c.toArray⟩ : ByteArray)[0]'h0).toNat : Int) == 38) = true:=by rw [L6.get_data c 0 h0,h38];rfl
    rw [hnv] at CN
    clear h hne hok hT ht hb he hm hz hSemi hExit hRec hText hTick hChar
    clear hnv h38 h1 hcl
    generalize (L6.number c).1 = nv at *
    go_enter Tryz.func122,Tryz.ntmps122
    go_wp2_with (first | (go_at_call 182;refine CB.out.mono ?_;rintro e w' ⟨rfl,rfl⟩) | (go_at_call 183;refine CE.out.mono ?_;rintro e w' ⟨rfl,rfl⟩) | (go_at_call 184;refine (CM.out _).mono ?_;rintro e w' ⟨rfl,rfl⟩) | (go_at_call 167;refine (CN.out _).mono ?_;rintro e w' ⟨rfl,rfl⟩) | (go_at_call 188;refine CP.out.mono ?_;rintro e w2 ⟨rfl,F2,hm2,st2⟩))
    go_ret
    rw [HP.out]
    exact ⟨rfl,F2,hm2,st2⟩
   ·have hand : ¬ (1 < c.length ∧ c.getD 0 0 = 38):=fun h=>h38 h.2
    have HM:=Lib.hid h
    have HNE:=Lib.hid hne
    have HOK:=Lib.hid hok
    obtain ⟨z,hz⟩ : ∃ z,Xc.lCall ++ Xc.label0 c = z:=⟨_,rfl⟩
    have ez : (⟨#[99,97,108,108,32]⟩ : ByteArray) ++ ⟨(Xc.label0 c).toArray⟩ = ⟨z.toArray⟩:=by rw [← hz];exact app_eq Xc.lCall _
    have hll : (Xc.label0 c).length ≤ 100002:=by have:=hcl;unfold Xc.label0 Xc.lZero;simp only [List.length_append,List.length_cons,List.length_nil] at *;omega
    have hsum : ¬ 9223372036854775807 < 5 + (Xc.label0 c).length:=by omega
    have CLB:=Lib.hid (fun W=>xlabel0_any c W hcl)
    have HP:=Lib.hid (show Xc.inside2 c S = .ok (Xc.put [z] S) from by unfold Xc.inside2;rw [if_neg (show ¬ c = Xc.tSemi from hSemi),if_neg (show ¬ c = Xc.tExit from hExit),if_neg (show ¬ c = Xc.tRec from hRec),if_neg (show ¬ c = Xc.tText from hText),if_neg (fun h=>h.elim hTick hChar)];unfold Xc.other;rw [if_neg (by rw [hnv];decide),if_neg hand,hz])
    rw [hnv] at CN
    have h0 : 0 < c.length:=by omega
    have hpos : (1 : Int) < (c.length : Int):=by omega
    have hpos0 : (0 : Int) < (c.length : Int):=by omega
    have e38 : ((((⟨c.toArray⟩ : ByteArray)[0]'h0).toNat : Int) == 38) = false:=by rw [L6.get_data c 0 h0];have:=byte_eq (c.getD 0 0) 38;rw [show ((c.getD 0 0) == 38) = false by simpa using h38] at this;exact this
    clear h38 h1
    clear h hne hok hT ht hb he hm hz hSemi hExit hRec hText hTick hChar
    clear hnv hand hll hcl
    generalize (L6.number c).1 = nv at *
    generalize Xc.label0 c = lb at *
    go_enter Tryz.func122,Tryz.ntmps122
    go_wp2_with (first | (go_at_call 182;refine CB.out.mono ?_;rintro e w' ⟨rfl,rfl⟩) | (go_at_call 183;refine CE.out.mono ?_;rintro e w' ⟨rfl,rfl⟩) | (go_at_call 184;refine (CM.out _).mono ?_;rintro e w' ⟨rfl,rfl⟩) | (go_at_call 167;refine (CN.out _).mono ?_;rintro e w' ⟨rfl,rfl⟩) | (go_at_call 25;refine (CLB.out _).mono ?_;rintro e w2 ⟨rfl,hb2⟩))
    have HM2:=Lib.hid (HM.out.kept hb2)
    have hbe4 : Below w2.heap.size w2 (w2.alloc (.cells #[.string ⟨z.toArray⟩] 9)):=(Below.refl _ _).alloc (Nat.le_refl _) _
    have C4:=Lib.hid (show Calls Tryz.prog 65 #[.pointer (some ⟨gm,0,none⟩),.slice (some ⟨w2.heap.size,0,none⟩) 1 1] (w2.alloc (.cells #[.string ⟨z.toArray⟩] 9)) fun e w'=>e = .returned (.tuple #[]) ∧ Xc.To F (w2.alloc (.cells #[.string ⟨z.toArray⟩] 9)) gm tag (Xc.put [z] (S)) w' from
     xput_any (HM2.out.kept hbe4) HNE.out (HOK.out.mono (by omega)) (.slice (some ⟨w2.heap.size,0,none⟩) 1 1) [z] (rd_new [z] (Bk.fresh w2 _ _) (by simp)) (by simp))
    have HBE4:=Lib.hid hbe4
    clear hbe4
    go_wp2_with (go_at_call 65;refine C4.out.mono ?_)
    rintro e w4 ⟨rfl,F4,hm4,st4⟩
    go_wp2_with fail
    go_ret
    rw [HP.out]
    exact ⟨rfl,F4,hm4,(Step.of_below hb2).trans ((Step.of_below HBE4.out).trans st4)⟩
  ·have hand : ¬ (1 < c.length ∧ c.getD 0 0 = 38):=fun h=>h1 h.1
   have HM:=Lib.hid h
   have HNE:=Lib.hid hne
   have HOK:=Lib.hid hok
   obtain ⟨z,hz⟩ : ∃ z,Xc.lCall ++ Xc.label0 c = z:=⟨_,rfl⟩
   have ez : (⟨#[99,97,108,108,32]⟩ : ByteArray) ++ ⟨(Xc.label0 c).toArray⟩ = ⟨z.toArray⟩:=by rw [← hz];exact app_eq Xc.lCall _
   have hll : (Xc.label0 c).length ≤ 100002:=by have:=hcl;unfold Xc.label0 Xc.lZero;simp only [List.length_append,List.length_cons,List.length_nil] at *;omega
   have hsum : ¬ 9223372036854775807 < 5 + (Xc.label0 c).length:=by omega
   have CLB:=Lib.hid (fun W=>xlabel0_any c W hcl)
   have HP:=Lib.hid (show Xc.inside2 c S = .ok (Xc.put [z] S) from by unfold Xc.inside2;rw [if_neg (show ¬ c = Xc.tSemi from hSemi),if_neg (show ¬ c = Xc.tExit from hExit),if_neg (show ¬ c = Xc.tRec from hRec),if_neg (show ¬ c = Xc.tText from hText),if_neg (fun h=>h.elim hTick hChar)];unfold Xc.other;rw [if_neg (by rw [hnv];decide),if_neg hand,hz])
   rw [hnv] at CN
   have hpos : ¬ (1 : Int) < (c.length : Int):=by omega
   clear h1
   clear h hne hok hT ht hb he hm hz hSemi hExit hRec hText hTick hChar
   clear hnv hand hll hcl
   generalize (L6.number c).1 = nv at *
   generalize Xc.label0 c = lb at *
   go_enter Tryz.func122,Tryz.ntmps122
   go_wp2_with (first | (go_at_call 182;refine CB.out.mono ?_;rintro e w' ⟨rfl,rfl⟩) | (go_at_call 183;refine CE.out.mono ?_;rintro e w' ⟨rfl,rfl⟩) | (go_at_call 184;refine (CM.out _).mono ?_;rintro e w' ⟨rfl,rfl⟩) | (go_at_call 167;refine (CN.out _).mono ?_;rintro e w' ⟨rfl,rfl⟩) | (go_at_call 25;refine (CLB.out _).mono ?_;rintro e w2 ⟨rfl,hb2⟩))
   have HM2:=Lib.hid (HM.out.kept hb2)
   have hbe4 : Below w2.heap.size w2 (w2.alloc (.cells #[.string ⟨z.toArray⟩] 9)):=(Below.refl _ _).alloc (Nat.le_refl _) _
   have C4:=Lib.hid (show Calls Tryz.prog 65 #[.pointer (some ⟨gm,0,none⟩),.slice (some ⟨w2.heap.size,0,none⟩) 1 1] (w2.alloc (.cells #[.string ⟨z.toArray⟩] 9)) fun e w'=>e = .returned (.tuple #[]) ∧ Xc.To F (w2.alloc (.cells #[.string ⟨z.toArray⟩] 9)) gm tag (Xc.put [z] (S)) w' from
    xput_any (HM2.out.kept hbe4) HNE.out (HOK.out.mono (by omega)) (.slice (some ⟨w2.heap.size,0,none⟩) 1 1) [z] (rd_new [z] (Bk.fresh w2 _ _) (by simp)) (by simp))
   have HBE4:=Lib.hid hbe4
   clear hbe4
   go_wp2_with (go_at_call 65;refine C4.out.mono ?_)
   rintro e w4 ⟨rfl,F4,hm4,st4⟩
   go_wp2_with fail
   go_ret
   rw [HP.out]
   exact ⟨rfl,F4,hm4,(Step.of_below hb2).trans ((Step.of_below HBE4.out).trans st4)⟩
 ·obtain ⟨z,hz⟩ : ∃ z,Xc.lLi ++ c = z:=⟨_,rfl⟩
  have ez : (⟨#[108,105,32,116,48,32]⟩ : ByteArray) ++ ⟨c.toArray⟩ = ⟨z.toArray⟩:=by rw [← hz];exact app_eq Xc.lLi _
  have hsum : ¬ 9223372036854775807 < 6 + c.length:=by omega
  have HZL:=Lib.hid (show z.length ≤ 500000 from by rw [← hz,List.length_append];simp only [Xc.lLi,List.length_cons,List.length_nil];omega)
  have CP:=Lib.hid (xpush_any h hne (hok.mono (by omega)) z HZL.out)
  have HP:=Lib.hid (show Xc.inside2 c S = .ok (Xc.push z S) from by unfold Xc.inside2;rw [if_neg (show ¬ c = Xc.tSemi from hSemi),if_neg (show ¬ c = Xc.tExit from hExit),if_neg (show ¬ c = Xc.tRec from hRec),if_neg (show ¬ c = Xc.tText from hText),if_neg (fun h=>h.elim hTick hChar)];unfold Xc.other;rw [if_pos hnv,hz])
  rw [hnv] at CN
  clear h hne hok hT ht hb he hm hz hSemi hExit hRec hText hTick hChar
  clear hnv
  generalize (L6.number c).1 = nv at *
  go_enter Tryz.func122,Tryz.ntmps122
  go_wp2_with (first | (go_at_call 182;refine CB.out.mono ?_;rintro e w' ⟨rfl,rfl⟩) | (go_at_call 183;refine CE.out.mono ?_;rintro e w' ⟨rfl,rfl⟩) | (go_at_call 184;refine (CM.out _).mono ?_;rintro e w' ⟨rfl,rfl⟩) | (go_at_call 167;refine (CN.out _).mono ?_;rintro e w' ⟨rfl,rfl⟩) | (go_at_call 188;refine CP.out.mono ?_;rintro e w2 ⟨rfl,F2,hm2,st2⟩))
  go_ret
  rw [HP.out]
  exact ⟨rfl,F2,hm2,st2⟩
set_option maxRecDepth 100000 in
set_option maxHeartbeats 4000000 in
theorem xinside_any {F : Nat → Prop} {w : World} {gm : Nat} {tag : List UInt8} {S : Xc.S} (h : Xc.Mk F w gm tag S) (hne : S.words ≠ []) (hok : Xc.Ok 0 S) (hT : Xc.Tb F w) (ht : tag.length ≤ 31) (c : List UInt8) (hcl : c.length ≤ 100000) (hns : Xc.inside tag c S ≠ .stuck) :
  Calls Tryz.prog 122 #[.pointer (some ⟨gm,0,none⟩),.string ⟨c.toArray⟩] w (Xc.RPost F w gm tag (Xc.inside tag c S)):=by
 have CB:=Lib.hid (xbegins_any h hne (hok.mono (by omega)) hT ht c)
 cases hb : Xc.begins tag c S with
 | some r=>
  have HP:=Lib.hid (show Xc.inside tag c S = r from by unfold Xc.inside;rw [hb])
  rw [hb] at CB
  clear h hne hok hT ht hb hns
  cases r with
  | stuck=>
   go_enter Tryz.func122,Tryz.ntmps122
   go_wp2_with (go_at_call 182;refine CB.out.mono ?_;rintro e w2 hpost;exact absurd hpost id)
  | bad n=>
   go_enter Tryz.func122,Tryz.ntmps122
   go_wp2_with (go_at_call 182;refine CB.out.mono ?_;rintro e w' ⟨rfl,rfl⟩)
   go_ret
   rw [HP.out]
   exact ⟨rfl,F,Step.refl F w⟩
  | ok S1=>
   go_enter Tryz.func122,Tryz.ntmps122
   go_wp2_with (go_at_call 182;refine CB.out.mono ?_;rintro e w2 ⟨rfl,F2,hm2,st2⟩)
   go_ret
   rw [HP.out]
   exact ⟨rfl,F2,hm2,st2⟩
 | none=>
  have CE:=Lib.hid (xends_any h hne (hok.mono (by omega)) hT ht c)
  cases he : Xc.ends tag c S with
  | some o=>
   rw [hb] at CB
   rw [he] at CE
   cases o with
   | none=>
    have HP:=Lib.hid (show Xc.inside tag c S = .bad 44 from by unfold Xc.inside;rw [hb,he])
    clear h hne hok hT ht hb he hns
    go_enter Tryz.func122,Tryz.ntmps122
    go_wp2_with (first | (go_at_call 182;refine CB.out.mono ?_;rintro e w' ⟨rfl,rfl⟩) | (go_at_call 183;refine CE.out.mono ?_;rintro e w2 ⟨rfl,hb2⟩))
    go_ret
    rw [HP.out]
    exact ⟨rfl,F,Step.of_below hb2⟩
   | some S1=>
    have HP:=Lib.hid (show Xc.inside tag c S = .ok S1 from by unfold Xc.inside;rw [hb,he])
    clear h hne hok hT ht hb he hns
    go_enter Tryz.func122,Tryz.ntmps122
    go_wp2_with (first | (go_at_call 182;refine CB.out.mono ?_;rintro e w' ⟨rfl,rfl⟩) | (go_at_call 183;refine CE.out.mono ?_;rintro e w2 ⟨rfl,F2,hm2,st2⟩))
    go_ret
    rw [HP.out]
    exact ⟨rfl,F2,hm2,st2⟩
  | none=>
   cases hm : Xc.makes c with
   | some kind=>
    have HP:=Lib.hid (show Xc.inside tag c S = .bad 44 from by unfold Xc.inside;rw [hb,he];dsimp only;rw [hm])
    have CM:=Lib.hid (fun W=>xmakes_any c W)
    rw [hb] at CB
    rw [he] at CE
    rw [hm] at CM
    clear h hne hok hT ht hb he hm hns
    go_enter Tryz.func122,Tryz.ntmps122
    go_wp2_with (first | (go_at_call 182;refine CB.out.mono ?_;rintro e w' ⟨rfl,rfl⟩) | (go_at_call 183;refine CE.out.mono ?_;rintro e w' ⟨rfl,rfl⟩) | (go_at_call 184;refine (CM.out _).mono ?_;rintro e w' ⟨rfl,rfl⟩))
    go_ret
    rw [HP.out]
    exact ⟨rfl,F,Step.refl F w⟩
   | none=>
    have e : Xc.inside tag c S = Xc.inside2 c S:=by unfold Xc.inside;rw [hb,he];dsimp only;rw [hm]
    rw [e] at hns ⊢
    clear CB CE e
    by_cases hSemi : c = [59]
    ·subst hSemi;exact xin_Semi h hne hok hT ht hb he hm
    by_cases hExit : c = [69,88,73,84]
    ·subst hExit;exact xin_Exit h hne hok hT ht hb he hm
    by_cases hRec : c = [82,69,67,85,82,83,69]
    ·subst hRec;exact xin_Rec h hne hok hT ht hb he hm
    by_cases hText : c = [83,34]
    ·subst hText;exact absurd (by unfold Xc.inside2;rw [if_neg (by decide),if_neg (by decide),if_neg (by decide)];exact if_pos rfl) hns
    by_cases hTick : c = [91,39,93]
    ·subst hTick;exact xin_Tick h hne hok hT ht hb he hm
    by_cases hChar : c = [91,67,72,65,82,93]
    ·subst hChar;exact xin_Char h hne hok hT ht hb he hm
    exact xin_Other h hne hok hT ht c hcl hSemi hExit hRec hText hTick hChar hb he hm
def Xc.FlW (ws : List Xc.W) : Prop:=∀ x ∈ ws,x.flags < 8
theorem Xc.FlW.upd {f : Xc.W → Xc.W} (hf : ∀ x,x.flags < 8 → (f x).flags < 8) : ∀ {ws : List Xc.W},Xc.FlW ws → Xc.FlW (Xc.upd f ws)
 | [],h=>h
 | [w],h=>fun x hx=>by
  have hx : x ∈ [f w]:=hx
  rw [List.mem_singleton] at hx
  subst hx
  exact hf w (h w (by simp))
 | w :: y :: t,h=>fun x hx=>by
  rw [Xc.upd] at hx
  rcases List.mem_cons.1 hx with rfl | hx
  ·exact h x (by simp)
  ·exact Xc.FlW.upd (ws:=y :: t) hf (fun z hz=>h z (List.mem_cons_of_mem _ hz)) x hx
theorem Xc.FlW.put {ws : List Xc.W} (h : Xc.FlW ws) (ls : List (List UInt8)) : Xc.FlW (Xc.upd (Xc.add ls) ws):=Xc.FlW.upd (f:=Xc.add ls) (fun _ hx=>hx) h
theorem Xc.FlW.snoc {ws : List Xc.W} (h : Xc.FlW ws) (f : List UInt8) : Xc.FlW (ws ++ [⟨f,0,[]⟩]):=fun x hx=>by
 rcases List.mem_append.1 hx with hx | hx
 ·exact h x hx
 ·rw [List.mem_singleton] at hx;subst hx;show 0 < 8;decide
theorem Xc.close_words {kinds : List (List UInt8)} {S S1 : Xc.S} {k : List UInt8} (h : Xc.close kinds S = some (k,S1)) : S1.words = S.words:=by
 obtain ⟨_,r,_,_,e⟩:=Xc.close_some h
 rw [e];rfl
theorem Xc.back_words (S : Xc.S) : (Xc.back S).2.words = S.words:=by
 unfold Xc.back
 cases hc : Xc.close [Xc.tBegin] S with
 | none=>rfl
 | some p=>obtain ⟨k,D⟩:=p;exact Xc.close_words hc
theorem Xc.begins_fl {tag w : List UInt8} {S S1 : Xc.S} (h : Xc.FlW S.words) (hb : Xc.begins tag w S = some (.ok S1)) : Xc.FlW S1.words:=by
 unfold Xc.begins at hb
 split at hb
 ·injection hb with hb;injection hb with hb;subst hb;exact h.put _
 split at hb
 ·cases hb
 split at hb
 ·injection hb with hb;injection hb with hb;subst hb;exact h.put _
 ·cases hb
theorem Xc.ends_fl {tag w : List UInt8} {S S1 : Xc.S} (h : Xc.FlW S.words) (hb : Xc.ends tag w S = some (some S1)) : Xc.FlW S1.words:=by
 unfold Xc.ends at hb
 split at hb
 ·injection hb with hb
  split at hb
  ·cases hb
  ·rename_i k D hc;injection hb with hb;subst hb
   exact Xc.FlW.put (by show Xc.FlW D.words;rw [Xc.close_words hc];exact h) _
 split at hb
 ·injection hb with hb
  split at hb
  ·cases hb
  ·rename_i k D hc;injection hb with hb;subst hb
   exact Xc.FlW.put (by rw [Xc.close_words hc];exact h) _
 split at hb
 ·injection hb with hb
  split at hb
  ·cases hb
  ·rename_i k D hc;injection hb with hb;subst hb
   exact Xc.FlW.put (by rw [Xc.close_words hc];exact h) _
 split at hb
 ·injection hb with hb
  split at hb
  ·cases hb
  ·rename_i k D hc;injection hb with hb;subst hb
   exact Xc.FlW.put (by rw [Xc.close_words hc];exact h) _
 split at hb
 ·injection hb with hb
  split at hb
  ·cases hb
  ·rename_i k D hc;injection hb with hb;subst hb
   exact Xc.FlW.put (by rw [Xc.back_words,Xc.close_words hc];exact h) _
 ·cases hb
theorem Xc.top_fl {w : List UInt8} {S S1 : Xc.S} (h : Xc.FlW S.words) (hb : Xc.top w S = .ok S1) : Xc.FlW S1.words:=by
 unfold Xc.top at hb
 split at hb
 ·unfold Xc.make at hb
  split at hb
  ·cases hb
  unfold Xc.begin at hb
  by_cases h1 : Xc.word (Xc.num [] S).s = []
  ·rw [if_pos h1] at hb;cases hb
  rw [if_neg h1] at hb
  by_cases h2 : Nm.right (Xc.word (Xc.num [] S).s) = false
  ·rw [if_pos h2] at hb;cases hb
  rw [if_neg h2] at hb
  injection hb with hb
  subst hb
  unfold Xc.made_
  split
  ·exact Xc.FlW.put (h.snoc _) _
  split
  ·exact Xc.FlW.put (Xc.FlW.put (h.snoc _) _) _
  ·exact Xc.FlW.put (Xc.FlW.put (h.snoc _) _) _
 ·have hf : ∀ n,n < 8 → Xc.flag n (Xc.num [] S) = .ok S1 → Xc.FlW S1.words:=fun n hn e=>by
   unfold Xc.flag at e
   split at e
   ·cases e
   split at e
   ·cases e
   injection e with e
   subst e
   exact h.upd fun x hx=>(Xc.or8 hx hn).2
  split at hb
  ·cases hb
  split at hb
  ·exact hf 1 (by decide) hb
  split at hb
  ·exact hf 2 (by decide) hb
  split at hb
  ·exact hf 4 (by decide) hb
  split at hb
  ·cases hb
  ·injection hb with hb;subst hb;exact h
theorem Xc.inside_fl {tag w : List UInt8} {S S1 : Xc.S} (h : Xc.FlW S.words) (hb : Xc.inside tag w S = .ok S1) : Xc.FlW S1.words:=by
 unfold Xc.inside at hb
 cases h1 : Xc.begins tag w S with
 | some r=>rw [h1] at hb;have hb : r = _:=hb;subst hb;exact Xc.begins_fl h h1
 | none=>
  rw [h1] at hb
  dsimp only at hb
  cases h2 : Xc.ends tag w S with
  | some o=>
   rw [h2] at hb
   cases o with
   | none=>cases hb
   | some D=>injection hb with hb;subst hb;exact Xc.ends_fl h h2
  | none=>
   rw [h2] at hb
   dsimp only at hb
   split at hb
   ·cases hb
   unfold Xc.inside2 at hb
   split at hb
   ·split at hb
    ·cases hb
    ·injection hb with hb;subst hb;exact Xc.FlW.put h _
   split at hb
   ·injection hb with hb;subst hb;exact h.put _
   split at hb
   ·injection hb with hb;subst hb;exact h.put _
   split at hb
   ·cases hb
   split at hb
   ·unfold Xc.quoted at hb
    split at hb
    ·cases hb
    split at hb
    ·injection hb with hb;subst hb;exact Xc.FlW.put h _
    ·injection hb with hb;subst hb;exact Xc.FlW.put h _
   ·injection hb with hb
    subst hb
    unfold Xc.other
    split
    ·exact h.put _
    split
    ·exact h.put _
    ·exact h.put _
theorem Xc.one_fl {tag w : List UInt8} {S S1 : Xc.S} (h : Xc.FlW S.words) (hb : Xc.one tag w S = .ok S1) : Xc.FlW S1.words:=by
 unfold Xc.one at hb
 split at hb
 ·exact Xc.inside_fl h hb
 ·exact Xc.top_fl h hb
theorem Xc.close_s {kinds : List (List UInt8)} {S S1 : Xc.S} {k : List UInt8} (h : Xc.close kinds S = some (k,S1)) : S1.s = S.s:=by
 obtain ⟨_,r,_,_,e⟩:=Xc.close_some h
 rw [e];rfl
theorem Xc.back_s (S : Xc.S) : (Xc.back S).2.s = S.s:=by
 unfold Xc.back
 cases hc : Xc.close [Xc.tBegin] S with
 | none=>rfl
 | some p=>obtain ⟨k,D⟩:=p;exact Xc.close_s hc
theorem Xc.begins_s {tag w : List UInt8} {S S1 : Xc.S} (hb : Xc.begins tag w S = some (.ok S1)) : S1.s = S.s:=by
 unfold Xc.begins at hb
 split at hb
 ·injection hb with hb;injection hb with hb;subst hb;rfl
 split at hb
 ·cases hb
 split at hb
 ·injection hb with hb;injection hb with hb;subst hb;rfl
 ·cases hb
theorem Xc.ends_s {tag w : List UInt8} {S S1 : Xc.S} (hb : Xc.ends tag w S = some (some S1)) : S1.s = S.s:=by
 unfold Xc.ends at hb
 split at hb
 ·injection hb with hb
  split at hb
  ·cases hb
  ·rename_i k D hc;injection hb with hb;subst hb;show D.s = S.s;exact Xc.close_s hc
 split at hb
 ·injection hb with hb
  split at hb
  ·cases hb
  ·rename_i k D hc;injection hb with hb;subst hb;show D.s = S.s;exact Xc.close_s hc
 split at hb
 ·injection hb with hb
  split at hb
  ·cases hb
  ·rename_i k D hc;injection hb with hb;subst hb;show D.s = S.s;exact Xc.close_s hc
 split at hb
 ·injection hb with hb
  split at hb
  ·cases hb
  ·rename_i k D hc;injection hb with hb;subst hb;show D.s = S.s;exact Xc.close_s hc
 split at hb
 ·injection hb with hb
  split at hb
  ·cases hb
  ·rename_i k D hc;injection hb with hb;subst hb;exact (Xc.back_s D).trans (Xc.close_s hc)
 ·cases hb
theorem Xc.top_s {w : List UInt8} {S S1 : Xc.S} (hb : Xc.top w S = .ok S1) : S1.s.length ≤ S.s.length:=by
 unfold Xc.top at hb
 split at hb
 ·unfold Xc.make at hb
  split at hb
  ·cases hb
  unfold Xc.begin at hb
  by_cases h1 : Xc.word (Xc.num [] S).s = []
  ·rw [if_pos h1] at hb;cases hb
  rw [if_neg h1] at hb
  by_cases h2 : Nm.right (Xc.word (Xc.num [] S).s) = false
  ·rw [if_pos h2] at hb;cases hb
  rw [if_neg h2] at hb
  injection hb with hb
  subst hb
  have:=Xc.word_rest S.s
  unfold Xc.made_
  split
  ·show (Xc.rest S.s).length ≤ _;omega
  split
  ·show (Xc.rest S.s).length ≤ _;omega
  ·show (Xc.rest S.s).length ≤ _;omega
 ·have hf : ∀ n,Xc.flag n (Xc.num [] S) = .ok S1 → S1.s.length ≤ S.s.length:=fun n e=>by
   unfold Xc.flag at e
   split at e
   ·cases e
   split at e
   ·cases e
   injection e with e
   subst e
   exact Nat.le_refl _
  split at hb
  ·cases hb
  split at hb
  ·exact hf 1 hb
  split at hb
  ·exact hf 2 hb
  split at hb
  ·exact hf 4 hb
  split at hb
  ·cases hb
  ·injection hb with hb;subst hb;exact Nat.le_refl _
theorem Xc.inside_s {tag w : List UInt8} {S S1 : Xc.S} (hb : Xc.inside tag w S = .ok S1) : S1.s.length ≤ S.s.length:=by
 unfold Xc.inside at hb
 cases h1 : Xc.begins tag w S with
 | some r=>rw [h1] at hb;have hb : r = _:=hb;subst hb;rw [Xc.begins_s h1];exact Nat.le_refl _
 | none=>
  rw [h1] at hb
  dsimp only at hb
  cases h2 : Xc.ends tag w S with
  | some o=>
   rw [h2] at hb
   cases o with
   | none=>cases hb
   | some D=>injection hb with hb;subst hb;rw [Xc.ends_s h2];exact Nat.le_refl _
  | none=>
   rw [h2] at hb
   dsimp only at hb
   split at hb
   ·cases hb
   unfold Xc.inside2 at hb
   split at hb
   ·split at hb
    ·cases hb
    ·injection hb with hb;subst hb;exact Nat.le_refl _
   split at hb
   ·injection hb with hb;subst hb;exact Nat.le_refl _
   split at hb
   ·injection hb with hb;subst hb;exact Nat.le_refl _
   split at hb
   ·cases hb
   split at hb
   ·have hwr:=Xc.word_rest S.s
    unfold Xc.quoted at hb
    split at hb
    ·cases hb
    split at hb
    ·injection hb with hb;subst hb;show (Xc.rest S.s).length ≤ _;omega
    ·injection hb with hb;subst hb;show (Xc.rest S.s).length ≤ _;omega
   ·injection hb with hb
    subst hb
    unfold Xc.other
    split
    ·exact Nat.le_refl _
    split
    ·exact Nat.le_refl _
    ·exact Nat.le_refl _
theorem Xc.one_s {tag w : List UInt8} {S S1 : Xc.S} (hb : Xc.one tag w S = .ok S1) : S1.s.length ≤ S.s.length:=by
 unfold Xc.one at hb
 split at hb
 ·exact Xc.inside_s hb
 ·exact Xc.top_s hb
structure Xc.Mid (F : Nat → Prop) (w : World) (gm : Nat) (tag : List UInt8) (N : Nat) (R0 : Xc.R) (u : Value) (W : World) (D : Xc.S) : Prop where
 word : u = .string ⟨(Xc.word D.s).toArray⟩
 obj : Xc.To F w gm tag (Xc.atRest (Xc.rest D.s) D) W
 lim : Xc.Lim 0 N D
 fl : Xc.FlW D.words
 line : ∃ n,Xc.line tag n D = R0
theorem Xc.line_cases {tag : List UInt8} {n : Nat} {D : Xc.S} {R0 : Xc.R} (h : Xc.line tag n D = R0) (hns : R0 ≠ .stuck) :
  ((Xc.word D.s = [] ∨ Xc.word D.s = Xc.tNote) ∧ R0 = .ok (Xc.atRest (Xc.rest D.s) D)) ∨ (Xc.word D.s = Xc.tOpen ∧ ∃ m,Xc.line tag m (Xc.atRest (Xc.upTo 41 (Xc.rest D.s)) D) = R0) ∨
  (Xc.word D.s ≠ [] ∧ Xc.word D.s ≠ Xc.tNote ∧ Xc.word D.s ≠ Xc.tOpen ∧ ((∃ e,Xc.one tag (Xc.word D.s) (Xc.atRest (Xc.rest D.s) D) = .bad e ∧ R0 = .bad e) ∨ ∃ S1 m,Xc.one tag (Xc.word D.s) (Xc.atRest (Xc.rest D.s) D) = .ok S1 ∧ Xc.line tag m S1 = R0)):=by
 cases n with
 | zero=>exact absurd h.symm hns
 | succ m=>
  unfold Xc.line at h
  by_cases h1 : Xc.word D.s = [] ∨ Xc.word D.s = Xc.tNote
  ·rw [if_pos h1] at h;exact .inl ⟨h1,h.symm⟩
  rw [if_neg h1] at h
  by_cases h2 : Xc.word D.s = Xc.tOpen
  ·rw [if_pos h2] at h;exact .inr (.inl ⟨h2,m,h⟩)
  rw [if_neg h2] at h
  refine .inr (.inr ⟨fun e=>h1 (.inl e),fun e=>h1 (.inr e),h2,?_⟩)
  cases ho : Xc.one tag (Xc.word D.s) (Xc.atRest (Xc.rest D.s) D) with
  | bad e=>rw [ho] at h;exact .inl ⟨e,rfl,h.symm⟩
  | stuck=>rw [ho] at h;exact absurd h.symm hns
  | ok S1=>rw [ho] at h;exact .inr ⟨S1,m,rfl,h⟩
theorem Xc.bad_ne {tag w : List UInt8} {S : Xc.S} {e : Nat} (h : Xc.one tag w S = .bad e) : e = 40 ∨ e = 41 ∨ e = 44:=by
 unfold Xc.one at h
 split at h
 ·unfold Xc.inside at h
  cases h1 : Xc.begins tag w S with
  | some r=>
   rw [h1] at h
   have h : r = _:=h
   subst h
   unfold Xc.begins at h1
   split at h1
   ·cases h1
   split at h1
   ·cases h1;exact .inr (.inr rfl)
   split at h1
   ·cases h1
   ·cases h1
  | none=>
   rw [h1] at h
   dsimp only at h
   cases h2 : Xc.ends tag w S with
   | some o=>
    rw [h2] at h
    cases o with
    | none=>cases h;exact .inr (.inr rfl)
    | some D=>cases h
   | none=>
    rw [h2] at h
    dsimp only at h
    split at h
    ·cases h;exact .inr (.inr rfl)
    unfold Xc.inside2 at h
    split at h
    ·split at h
     ·cases h;exact .inr (.inr rfl)
     ·cases h
    split at h
    ·cases h
    split at h
    ·cases h
    split at h
    ·cases h
    split at h
    ·unfold Xc.quoted at h
     split at h
     ·cases h;exact .inl rfl
     split at h
     ·cases h
     ·cases h
    ·cases h
 ·unfold Xc.top at h
  split at h
  ·unfold Xc.make at h
   split at h
   ·cases h;exact .inl rfl
   split at h
   ·cases h
   ·rcases Xc.begin_bad h with e | e
    ·exact .inl e
    ·exact .inr (.inl e)
  ·have hf : ∀ n,Xc.flag n (Xc.num [] S) = .bad e → e = 40:=fun n e=>by
    unfold Xc.flag at e
    split at e
    ·cases e;rfl
    split at e
    ·cases e;rfl
    ·cases e
   split at h
   ·cases h;exact .inl rfl
   split at h
   ·exact .inl (hf 1 h)
   split at h
   ·exact .inl (hf 2 h)
   split at h
   ·exact .inl (hf 4 h)
   split at h
   ·cases h;exact .inl rfl
   ·cases h
theorem Xc.line_measure {gm : Nat} {W W' : World} {a b a' b' : List UInt8} (h : W.cell? ⟨gm,0,none⟩ = some (.string ⟨b.toArray⟩)) (h' : W'.cell? ⟨gm,0,none⟩ = some (.string ⟨b'.toArray⟩)) (hl : a'.length + b'.length < a.length + b.length) :
  a'.length + (match W'.cell? ⟨gm,0,none⟩ with | some (.string t)=>t.size | _=>0) < a.length + (match W.cell? ⟨gm,0,none⟩ with | some (.string t)=>t.size | _=>0):=by
 rw [h',h]
 simpa [ByteArray.size] using hl
set_option maxRecDepth 100000 in
set_option maxHeartbeats 8000000 in
theorem xline_any {F : Nat → Prop} {w : World} {gm : Nat} {tag : List UInt8} {S : Xc.S} (h : Xc.Mk F w gm tag S) (hT : Xc.Tb F w) (ht : tag.length ≤ 31) (t : List UInt8) {N : Nat} (hlim : Xc.Lim 0 N (Xc.atRest t S)) (hN : N ≤ 50000) (hfl : Xc.FlW S.words) (hns : Xc.line tag (t.length + 1) (Xc.atRest t S) ≠ .stuck) :
  Calls Tryz.prog 66 #[.pointer (some ⟨gm,0,none⟩),.string ⟨t.toArray⟩] w (Xc.RPost F w gm tag (Xc.line tag (t.length + 1) (Xc.atRest t S))):=by
 have hsn:=h.seen
 have f0:=hsn.f 0
 have c0:=hsn.c0
 have htl : t.length ≤ 50000:=by have:=hlim.opens;show (Xc.atRest t S).s.length ≤ _;omega
 obtain ⟨m1,s1⟩:=h.setF 0 (.string ⟨t.toArray⟩) (S':=Xc.atRest t S) rfl rfl (fun vw vo=>by simp [Xc.cells,Xc.atRest])
 have hsn1:=m1.seen
 have CN:=Lib.hid (xnext_any gm t (w.setCell ⟨gm,0,none⟩ (.string ⟨t.toArray⟩)) hsn1.c0 (hsn1.f 0) (by omega))
 obtain ⟨m2,s2⟩:=m1.setF 0 (.string ⟨(Xc.rest t).toArray⟩) (S':=Xc.atRest (Xc.rest t) (Xc.atRest t S)) rfl rfl (fun vw vo=>by simp [Xc.cells,Xc.atRest])
 have HM:=Lib.hid (show Xc.To F w gm tag (Xc.atRest (Xc.rest (Xc.atRest t S).s) (Xc.atRest t S)) _ from ⟨F,m2,s1.trans s2⟩)
 have HLIM:=Lib.hid hlim
 have HFL:=Lib.hid (show Xc.FlW (Xc.atRest t S).words from hfl)
 have HTB:=Lib.hid hT
 have HTAG:=Lib.hid ht
 obtain ⟨R0,hR0⟩ : ∃ R0,Xc.line tag (t.length + 1) (Xc.atRest t S) = R0:=⟨_,rfl⟩
 have HR:=Lib.hid hR0
 rw [hR0] at hns ⊢
 have HNS:=Lib.hid hns
 clear h hT ht hlim hfl hns hsn htl m1 s1 hsn1 m2 s2 hR0
 go_enter Tryz.func66,Tryz.ntmps66
 go_wp2_with (go_at_call 120;refine CN.out.mono ?_;rintro e w' ⟨rfl,rfl⟩)
 go_loopw [5] (fun u wr=>∃ D,Xc.Mid F w gm tag N R0 u wr D) (fun u wr=>(match u with | .string t=>t.size | _=>0) + (match wr.cell? ⟨gm,0,none⟩ with | some (.string t)=>t.size | _=>0))
 case atStart=>exact ⟨Xc.atRest t S,rfl,HM.out,HLIM.out,HFL.out,_,HR.out⟩
 case round=>
  obtain ⟨D,rfl,⟨F1,hm,hst⟩,hlim,hfl,n,hline⟩:=hrel
  have hsn:=hm.seen
  have c0:=hsn.c0
  have f0:=hsn.f 0
  have c3:=hsn.c3
  have hwl:=Xc.word_rest D.s
  have hsl : D.s.length ≤ 50000:=by have:=hlim.opens;omega
  have hlim1:=hlim.take
  have hokA:=hlim1.ok hN
  have HST1:=Lib.hid hst
  replace c3 : wr.cell? ⟨gm,3,none⟩ = some (.bool D.within):=c3
  replace c0 : wr.cell? ⟨gm,0,none⟩ = some (.string ⟨(Xc.rest D.s).toArray⟩):=c0
  rcases Xc.line_cases hline HNS.out with ⟨hend,hR⟩ | ⟨hop,m,hm2⟩ | ⟨h1,h2,h3,hcase⟩
  ·have HP:=Lib.hid hR
   have HM1:=Lib.hid hm
   clear hm hst hlim hlim1 hfl hline hR hokA hwl hsl hsn
   rcases hend with hend | hend
   ·rw [hend]
    clear hend
    go_wp2_with fail
    go_ret
    rw [HP.out]
    exact ⟨rfl,F1,HM1.out,HST1.out⟩
   ·rw [show Xc.word D.s = [92] from hend]
    clear hend
    go_wp2_with fail
    go_ret
    rw [HP.out]
    exact ⟨rfl,F1,HM1.out,HST1.out⟩
  ·have hul:=Xc.upTo_len 41 (Xc.rest D.s)
   have CU:=Lib.hid (xupto_any gm (Xc.rest D.s) wr hsn.lt c0 f0 (by omega))
   have HM1:=Lib.hid hm
   have HLS:=Lib.hid (hlim.shrink (Xc.upTo 41 (Xc.rest D.s)) (by omega))
   have HFS:=Lib.hid hfl
   have HLN:=Lib.hid hm2
   have HDEC:=Lib.hid (show (Xc.word (Xc.upTo 41 (Xc.rest D.s))).length + (Xc.rest (Xc.upTo 41 (Xc.rest D.s))).length < ([40] : List UInt8).length + (Xc.rest D.s).length from by
    have:=Xc.word_rest (Xc.upTo 41 (Xc.rest D.s))
    show _ < 1 + _
    omega)
   have HUL:=Lib.hid (show (Xc.upTo 41 (Xc.rest D.s)).length ≤ 1000000000 from by omega)
   rw [show Xc.word D.s = [40] from hop]
   clear hop hm hst hlim hlim1 hfl hline hokA hwl hsl hsn hm2 hul
   go_wp2_with (go_at_call 121;refine CU.out.mono ?_;rintro e w' ⟨⟨v,rfl⟩,w1,hb1,rfl⟩)
   have hm1:=HM1.out.kept hb1
   have k0:=hm1.seen.c0
   have g0:=hm1.seen.f 0
   obtain ⟨m2,s2⟩:=hm1.setF 0 (.string ⟨(Xc.upTo 41 (Xc.rest D.s)).toArray⟩) (S':=Xc.atRest (Xc.upTo 41 (Xc.rest D.s)) (Xc.atRest (Xc.rest D.s) D)) rfl rfl (fun vw vo=>by simp [Xc.cells,Xc.atRest])
   have CX:=Lib.hid (xnext_any gm (Xc.upTo 41 (Xc.rest D.s)) (w1.setCell ⟨gm,0,none⟩ (.string ⟨(Xc.upTo 41 (Xc.rest D.s)).toArray⟩)) m2.seen.c0 (m2.seen.f 0) HUL.out)
   obtain ⟨m3,s3⟩:=m2.setF 0 (.string ⟨(Xc.rest (Xc.upTo 41 (Xc.rest D.s))).toArray⟩) (S':=Xc.atRest (Xc.rest (Xc.upTo 41 (Xc.rest D.s))) (Xc.atRest (Xc.upTo 41 (Xc.rest D.s)) D)) rfl rfl (fun vw vo=>by simp [Xc.cells,Xc.atRest])
   have HM3:=Lib.hid (show Xc.To F w gm tag (Xc.atRest (Xc.rest (Xc.upTo 41 (Xc.rest D.s))) (Xc.atRest (Xc.upTo 41 (Xc.rest D.s)) D)) _ from ⟨F1,m3,((HST1.out.trans (Step.of_below hb1)).trans s2).trans s3⟩)
   have HC3:=Lib.hid m3.seen.c0
   clear hm1 m2 s2 m3 s3
   go_wp2_with (go_at_call 120;refine CX.out.mono ?_;rintro e w' ⟨rfl,rfl⟩)
   go_roundw
   case rel=>exact ⟨Xc.atRest (Xc.upTo 41 (Xc.rest D.s)) D,rfl,HM3.out,HLS.out,HFS.out,m,HLN.out⟩
   case measure=>exact Xc.line_measure (a:=[40]) (a':=Xc.word (Xc.upTo 41 (Xc.rest D.s))) c0 HC3.out HDEC.out
  ·have hyl : (Xc.word D.s).length ≤ 100000:=by omega
   have HSS:=Lib.hid (fun (S1 : Xc.S) (ho : Xc.one tag (Xc.word D.s) (Xc.atRest (Xc.rest D.s) D) = .ok S1)=>show S1.s.length ≤ (Xc.rest D.s).length ∧ 1 ≤ (Xc.word D.s).length from ⟨Xc.one_s ho,List.length_pos_iff.2 h1⟩)
   generalize hy : Xc.word D.s = y at *
   clear hy
   have e1 : (y != []) = true:=by simpa using h1
   have e1' : (!y == []) = true:=by simpa using h1
   have e1'' : y.isEmpty = false:=by simpa using h1
   have e2 : (y != [92]) = true:=by simpa using (show ¬ y = [92] from h2)
   have e2' : (!y == [92]) = true:=by simpa using (show ¬ y = [92] from h2)
   have e3 : (y == [40]) = false:=by simpa using (show ¬ y = [40] from h3)
   clear hsn hwl hsl
   cases hwi : D.within
   ·have eo:=show Xc.one tag y (Xc.atRest (Xc.rest D.s) D) = Xc.top y (Xc.atRest (Xc.rest D.s) D) from by unfold Xc.one;rw [show (Xc.atRest (Xc.rest D.s) D).within = false from hwi];rfl
    have CO:=Lib.hid (xtop_any hm hokA hfl y hyl)
    rw [hwi] at c3
    rcases hcase with ⟨e,ho,hR⟩ | ⟨S1,m,ho,hm2⟩
    ·have HP:=Lib.hid hR
     have hne0 : ((e : Int) != 0) = true:=by rcases Xc.bad_ne ho with rfl | rfl | rfl <;> decide
     rw [eo] at ho
     rw [ho] at CO
     clear ho hR eo hline hm hlim hfl h1 h2 h3 hwi
     go_wp2_with (go_at_call 123;refine CO.out.mono ?_;rintro e w2 ⟨rfl,F2,st2⟩)
     go_ret
     rw [HP.out]
     exact ⟨rfl,F2,HST1.out.trans st2⟩
    ·have HSL:=Lib.hid (HSS.out S1 ho)
     have HLS:=Lib.hid (hlim1.one HTAG.out hN h1 ho)
     have HFS:=Lib.hid (Xc.one_fl (S:=Xc.atRest (Xc.rest D.s) D) hfl ho)
     have HLN:=Lib.hid hm2
     rw [eo] at ho
     rw [ho] at CO
     clear ho hm2 eo hline hm hlim hfl h1 h2 h3 hwi hlim1
     go_wp2_with (go_at_call 123;refine CO.out.mono ?_;rintro e w2 ⟨rfl,F2,hm2,st2⟩)
     have hs2:=hm2.seen
     have k0:=hs2.c0
     have CX:=Lib.hid (xnext_any gm S1.s w2 hs2.c0 (hs2.f 0) (by have:=HLS.out.opens;omega))
     obtain ⟨m3,s3⟩:=hm2.setF 0 (.string ⟨(Xc.rest S1.s).toArray⟩) (S':=Xc.atRest (Xc.rest S1.s) S1) rfl rfl (fun vw vo=>by simp [Xc.cells,Xc.atRest])
     have HM3:=Lib.hid (show Xc.To F w gm tag (Xc.atRest (Xc.rest S1.s) S1) _ from ⟨F2,m3,(HST1.out.trans st2).trans s3⟩)
     have HC3:=Lib.hid m3.seen.c0
     have HDEC:=Lib.hid (show (Xc.word S1.s).length + (Xc.rest S1.s).length < y.length + (Xc.rest D.s).length from by
      have:=Xc.word_rest S1.s
      have:=HSL.out
      omega)
     clear hm2 hs2 m3 s3
     go_wp2_with (go_at_call 120;refine CX.out.mono ?_;rintro e w' ⟨rfl,rfl⟩)
     go_roundw
     case rel=>exact ⟨S1,rfl,HM3.out,HLS.out,HFS.out,m,HLN.out⟩
     case measure=>exact Xc.line_measure (a:=y) (a':=Xc.word S1.s) c0 HC3.out HDEC.out
   ·have eo:=show Xc.one tag y (Xc.atRest (Xc.rest D.s) D) = Xc.inside tag y (Xc.atRest (Xc.rest D.s) D) from by unfold Xc.one;rw [show (Xc.atRest (Xc.rest D.s) D).within = true from hwi];rfl
    have hno : Xc.inside tag y (Xc.atRest (Xc.rest D.s) D) ≠ .stuck:=by rw [← eo];rcases hcase with ⟨e,ho,_⟩ | ⟨S1,m,ho,_⟩ <;> (rw [ho];intro h;cases h)
    have CO:=Lib.hid (xinside_any hm (hlim.has hwi) hokA (HTB.out.step hst) HTAG.out y hyl hno)
    rw [hwi] at c3
    rcases hcase with ⟨e,ho,hR⟩ | ⟨S1,m,ho,hm2⟩
    ·have HP:=Lib.hid hR
     have hne0 : ((e : Int) != 0) = true:=by rcases Xc.bad_ne ho with rfl | rfl | rfl <;> decide
     rw [eo] at ho
     rw [ho] at CO
     clear ho hR eo hline hm hlim hfl h1 h2 h3 hwi hno
     go_wp2_with (go_at_call 122;refine CO.out.mono ?_;rintro e w2 ⟨rfl,F2,st2⟩)
     go_ret
     rw [HP.out]
     exact ⟨rfl,F2,HST1.out.trans st2⟩
    ·have HSL:=Lib.hid (HSS.out S1 ho)
     have HLS:=Lib.hid (hlim1.one HTAG.out hN h1 ho)
     have HFS:=Lib.hid (Xc.one_fl (S:=Xc.atRest (Xc.rest D.s) D) hfl ho)
     have HLN:=Lib.hid hm2
     rw [eo] at ho
     rw [ho] at CO
     clear ho hm2 eo hline hm hlim hfl h1 h2 h3 hwi hlim1 hno
     go_wp2_with (go_at_call 122;refine CO.out.mono ?_;rintro e w2 ⟨rfl,F2,hm2,st2⟩)
     have hs2:=hm2.seen
     have k0:=hs2.c0
     have CX:=Lib.hid (xnext_any gm S1.s w2 hs2.c0 (hs2.f 0) (by have:=HLS.out.opens;omega))
     obtain ⟨m3,s3⟩:=hm2.setF 0 (.string ⟨(Xc.rest S1.s).toArray⟩) (S':=Xc.atRest (Xc.rest S1.s) S1) rfl rfl (fun vw vo=>by simp [Xc.cells,Xc.atRest])
     have HM3:=Lib.hid (show Xc.To F w gm tag (Xc.atRest (Xc.rest S1.s) S1) _ from ⟨F2,m3,(HST1.out.trans st2).trans s3⟩)
     have HC3:=Lib.hid m3.seen.c0
     have HDEC:=Lib.hid (show (Xc.word S1.s).length + (Xc.rest S1.s).length < y.length + (Xc.rest D.s).length from by
      have:=Xc.word_rest S1.s
      have:=HSL.out
      omega)
     clear hm2 hs2 m3 s3
     go_wp2_with (go_at_call 120;refine CX.out.mono ?_;rintro e w' ⟨rfl,rfl⟩)
     go_roundw
     case rel=>exact ⟨S1,rfl,HM3.out,HLS.out,HFS.out,m,HLN.out⟩
     case measure=>exact Xc.line_measure (a:=y) (a':=Xc.word S1.s) c0 HC3.out HDEC.out
end Go.Proofs.YtpcpaoeajcjoiaaGreatDoor
namespace Go.Proofs.YtpcpaoeajcjoiaaGreatDoor
open Go.RowKit Go.Shelf Kit
attribute [local go_sem] Oper.semAt_some
theorem Xc.Lim.lineD {tag : List UInt8} (ht : tag.length ≤ 31) {N : Nat} (hN : N ≤ 50000) : ∀ (n : Nat) {D S1 : Xc.S},Xc.Lim 0 N D → Xc.line tag n D = .ok S1 → Xc.Lim 0 N S1
 | 0,D,S1,h,e=>by cases e
 | n + 1,D,S1,h,e=>by
  unfold Xc.line at e
  split at e
  ·cases e;exact h.take.less
  rename_i h1
  split at e
  ·refine Xc.Lim.lineD ht hN n ?_ e
   have hr:=Xc.word_rest D.s
   have hu:=Xc.upTo_len 41 (Xc.rest D.s)
   exact h.shrink _ (by omega)
  ·cases ho : Xc.one tag (Xc.word D.s) (Xc.atRest (Xc.rest D.s) D) with
   | bad c=>rw [ho] at e;cases e
   | stuck=>rw [ho] at e;cases e
   | ok S2=>
    rw [ho] at e
    exact Xc.Lim.lineD ht hN n (h.take.one ht hN (fun x=>h1 (.inl x)) ho) e
theorem Xc.fl_line {tag : List UInt8} : ∀ (n : Nat) {D S1 : Xc.S},Xc.FlW D.words → Xc.line tag n D = .ok S1 → Xc.FlW S1.words
 | 0,D,S1,h,e=>by cases e
 | n + 1,D,S1,h,e=>by
  unfold Xc.line at e
  split at e
  ·cases e;exact h
  split at e
  ·exact Xc.fl_line n (D:=Xc.atRest (Xc.upTo 41 (Xc.rest D.s)) D) h e
  ·cases ho : Xc.one tag (Xc.word D.s) (Xc.atRest (Xc.rest D.s) D) with
   | bad c=>rw [ho] at e;cases e
   | stuck=>rw [ho] at e;cases e
   | ok S2=>
    rw [ho] at e
    exact Xc.fl_line n (Xc.one_fl (S:=Xc.atRest (Xc.rest D.s) D) h ho) e
theorem Xc.line_bad {tag : List UInt8} : ∀ (n : Nat) {D : Xc.S} {c : Nat},Xc.line tag n D = .bad c → c = 40 ∨ c = 41 ∨ c = 44
 | 0,D,c,e=>by cases e
 | n + 1,D,c,e=>by
  unfold Xc.line at e
  split at e
  ·cases e
  split at e
  ·exact Xc.line_bad n e
  ·cases ho : Xc.one tag (Xc.word D.s) (Xc.atRest (Xc.rest D.s) D) with
   | bad c2=>rw [ho] at e;injection e with e;subst e;exact Xc.bad_ne ho
   | stuck=>rw [ho] at e;cases e
   | ok S2=>rw [ho] at e;exact Xc.line_bad n e
def Xc.CPost (w : World) (tag s : List UInt8) (e : Ending) (w' : World) : Prop:=
 (∃ r,Xc.compile tag s = some r ∧ e = .returned (.tuple #[.string ⟨r.1.toArray⟩,.int .i64 (r.2.1 : Int),.int .i64 (r.2.2 : Int)])) ∧ Below w.heap.size w w'
structure XRes (h : Nat) (v : List UInt8) (i c : Nat) (X : World) : Prop where
 b0 : Bk X h 9 #[.string ⟨v.toArray⟩]
 b1 : Bk X (h + 1) 3 #[.int .i64 (i : Int)]
 b2 : Bk X (h + 2) 30 #[.int .i64 (c : Int)]
theorem XRes.same {h i c : Nat} {v : List UInt8} {X X' : World} (r : XRes h v i c X) (hk : ∀ g,h ≤ g → g < h + 3 → X'.heap[g]? = X.heap[g]?) : XRes h v i c X':=
 ⟨(hk _ (by omega) (by omega)).trans r.b0,(hk _ (by omega) (by omega)).trans r.b1,(hk _ (by omega) (by omega)).trans r.b2⟩
def xput3 (X : World) (h : Nat) (v a b : Value) : World:=((X.setCell ⟨h,0,none⟩ v).setCell ⟨h + 1,0,none⟩ a).setCell ⟨h + 2,0,none⟩ b
theorem xput3_other (X : World) (h : Nat) (v a b : Value) (g : Nat) (hg : g < h ∨ h + 3 ≤ g) : (xput3 X h v a b).heap[g]? = X.heap[g]?:=
 ((Below.heap_setCell _ _ _ _ (by show g ≠ h + 2;omega)).trans (Below.heap_setCell _ _ _ _ (by show g ≠ h + 1;omega))).trans (Below.heap_setCell _ _ _ _ (by show g ≠ h;omega))
theorem xput3_below {X w : World} {h : Nat} {v a b : Value} (hb : Below h w X) : Below h w (xput3 X h v a b):=((hb.setCell (Nat.le_refl _) _).setCell (by simp) _).setCell (by simp) _
theorem XRes.put3 {h i c i' c' : Nat} {v v' : List UInt8} {X : World} (r : XRes h v i c X) : XRes h v' i' c' (xput3 X h (.string ⟨v'.toArray⟩) (.int .i64 (i' : Int)) (.int .i64 (c' : Int))):=by
 have e0 : ∀ (u x : Value),(#[u] : Array Value).setIfInBounds 0 x = #[x]:=fun u x=>by simp
 have h1:=r.b0.set 0 (.string ⟨v'.toArray⟩)
 have g1:=(But.setCell X h 0 (.string ⟨v'.toArray⟩)).bk r.b1 (by omega)
 have k1:=(But.setCell X h 0 (.string ⟨v'.toArray⟩)).bk r.b2 (by omega)
 have h2:=(But.setCell _ (h + 1) 0 (.int .i64 (i' : Int))).bk h1 (by omega)
 have g2:=g1.set 0 (.int .i64 (i' : Int))
 have k2:=(But.setCell _ (h + 1) 0 (.int .i64 (i' : Int))).bk k1 (by omega)
 have h3:=(But.setCell _ (h + 2) 0 (.int .i64 (c' : Int))).bk h2 (by omega)
 have g3:=(But.setCell _ (h + 2) 0 (.int .i64 (c' : Int))).bk g2 (by omega)
 have k3:=k2.set 0 (.int .i64 (c' : Int))
 rw [e0] at h3 g3 k3
 exact ⟨h3,g3,k3⟩
theorem xcomp_results {h i c : Nat} {v : List UInt8} {X : World} (r : XRes h v i c X) {t : Array Value} (h2 : t[4]? = some (.pointer (some ⟨h,0,none⟩))) (h3 : t[5]? = some (.pointer (some ⟨h + 1,0,none⟩))) (h4 : t[6]? = some (.pointer (some ⟨h + 2,0,none⟩))) :
  (results Tryz.f27 t).run Tryz.prog X = .ok (.tuple #[.string ⟨v.toArray⟩,.int .i64 (i : Int),.int .i64 (c : Int)]) X:=by
 have k0 : X.cell? ⟨h,0,none⟩ = some (.string ⟨v.toArray⟩):=r.b0.cell 0
 have k1 : X.cell? ⟨h + 1,0,none⟩ = some (.int .i64 (i : Int)):=r.b1.cell 0
 have k2 : X.cell? ⟨h + 2,0,none⟩ = some (.int .i64 (c : Int)):=r.b2.cell 0
 simp [results,Tryz.f27,go_sem,h2,h3,h4,k0,k1,k2]
theorem Bk.al {W : World} {g : Nat} {t : TypeId} {cs : Array Value} (h : Bk W g t cs) (o : Obj) : Bk (W.alloc o) g t cs:=h.kept ((Below.refl _ _).alloc (Nat.le_refl _) _)
theorem alloc8 (w : World) (c0 c1 c2 c3 c4 c5 c6 c7 : Array Value) (t0 t1 t2 t3 t4 t5 t6 t7 : TypeId) {W : World} (hW : (((((((((w.alloc (.cells c0 t0)).alloc (.cells c1 t1)).alloc (.cells c2 t2)).alloc (.cells c3 t3)).alloc (.cells c4 t4)).alloc (.cells c5 t5)).alloc (.cells c6 t6)).alloc (.cells c7 t7))) = W) :
  Bk W w.heap.size t0 c0 ∧ Bk W (w.heap.size + 1) t1 c1 ∧ Bk W (w.heap.size + 2) t2 c2 ∧ Bk W (w.heap.size + 3) t3 c3 ∧ Bk W (w.heap.size + 4) t4 c4 ∧ Bk W (w.heap.size + 5) t5 c5 ∧ Bk W (w.heap.size + 6) t6 c6 ∧ Bk W (w.heap.size + 7) t7 c7 ∧ Below w.heap.size w W ∧ W.heap.size = w.heap.size + 8:=by
 subst hW
 have b0:=Bk.fresh w t0 c0
 have b1:=Bk.fresh (w.alloc (.cells c0 t0)) t1 c1
 have b2:=Bk.fresh ((w.alloc (.cells c0 t0)).alloc (.cells c1 t1)) t2 c2
 have b3:=Bk.fresh (((w.alloc (.cells c0 t0)).alloc (.cells c1 t1)).alloc (.cells c2 t2)) t3 c3
 have b4:=Bk.fresh ((((w.alloc (.cells c0 t0)).alloc (.cells c1 t1)).alloc (.cells c2 t2)).alloc (.cells c3 t3)) t4 c4
 have b5:=Bk.fresh (((((w.alloc (.cells c0 t0)).alloc (.cells c1 t1)).alloc (.cells c2 t2)).alloc (.cells c3 t3)).alloc (.cells c4 t4)) t5 c5
 have b6:=Bk.fresh ((((((w.alloc (.cells c0 t0)).alloc (.cells c1 t1)).alloc (.cells c2 t2)).alloc (.cells c3 t3)).alloc (.cells c4 t4)).alloc (.cells c5 t5)) t6 c6
 have b7:=Bk.fresh (((((((w.alloc (.cells c0 t0)).alloc (.cells c1 t1)).alloc (.cells c2 t2)).alloc (.cells c3 t3)).alloc (.cells c4 t4)).alloc (.cells c5 t5)).alloc (.cells c6 t6)) t7 c7
 simp only [World.size_alloc] at b1 b2 b3 b4 b5 b6 b7
 refine ⟨Bk.al (Bk.al (Bk.al (Bk.al (Bk.al (Bk.al (Bk.al b0 _) _) _) _) _) _) _,Bk.al (Bk.al (Bk.al (Bk.al (Bk.al (Bk.al b1 _) _) _) _) _) _,Bk.al (Bk.al (Bk.al (Bk.al (Bk.al b2 _) _) _) _) _,Bk.al (Bk.al (Bk.al (Bk.al b3 _) _) _) _,Bk.al (Bk.al (Bk.al b4 _) _) _,Bk.al (Bk.al b5 _) _,Bk.al b6 _,b7,?_,by simp⟩
 exact ((((((((Below.refl _ _).alloc (Nat.le_refl _) _).alloc (by simp) _).alloc (by simp;omega) _).alloc (by simp;omega) _).alloc (by simp;omega) _).alloc (by simp;omega) _).alloc (by simp;omega) _).alloc (by simp;omega) _
structure XA (s0 tag : List UInt8) (w : World) (rec : LoopState → Option Code → Loop) (st : LoopState) (k : Nat) (s : List UInt8) (X : World) : Prop where
 obj : ∃ F S,Xc.Mk F X (w.heap.size + 3) tag S ∧ (∀ j,F j → j = w.heap.size + 3 ∨ w.heap.size + 10 ≤ j) ∧ Xc.comp tag 0 Xc.start (L6.split s0) = Xc.comp tag k S (L6.split s) ∧ Xc.Lim 0 (s0.length - s.length) S ∧ Xc.FlW S.words
 num : k + (L6.split s).length = (L6.split s0).length
 slen : s.length ≤ s0.length
 tab : L6.Tab X
 p : Bk X (w.heap.size + 4) 131 #[.pointer (some ⟨w.heap.size + 3,0,none⟩)]
 n : Bk X (w.heap.size + 5) 3 #[.int .i64 (k : Int)]
 a : Bk X (w.heap.size + 6) 4 #[.bool false]
 res : XRes w.heap.size [] 0 0 X
 db : X.heap[w.heap.size + 8]? = some (.deferred (some []))
 rb : X.heap[w.heap.size + 9]? = some (.loop (rec st none))
 below : Below w.heap.size w X
structure XX (s0 tag : List UInt8) (w : World) (rec : LoopState → Option Code → Loop) (X : World) : Prop where
 res : ∃ i c,XRes w.heap.size [] i c X ∧ Xc.comp tag 0 Xc.start (L6.split s0) = .bad i c
 db : X.heap[w.heap.size + 8]? = some (.deferred (some []))
 rb : X.heap[w.heap.size + 9]? = some (.loop (rec .done (some .ret)))
 below : Below w.heap.size w X
theorem XA.but {s0 tag : List UInt8} {w : World} {rec : LoopState → Option Code → Loop} {st : LoopState} {k : Nat} {s : List UInt8} {X X' : World} (h : XA s0 tag w rec st k s X) (hT : 1 < w.heap.size)
  (hf : Fr (fun j=>j = w.heap.size + 7) X X') : XA s0 tag w rec st k s X':=by
 obtain ⟨⟨F,S,h1,h2,h3,h4,h5⟩,hn,hs,ht,hp,hnb,ha,hr,hd,hb,hw⟩:=h
 have hz:=(Array.getElem?_eq_some_iff.1 hb).1
 have hk : ∀ g,g < w.heap.size + 10 → g ≠ w.heap.size + 7 → X'.heap[g]? = X.heap[g]?:=fun g h1 h2=>hf.block g (by omega) h2
 refine ⟨⟨F,S,h1.fr hf (fun j hj e=>?_),h2,h3,h4,h5⟩,hn,hs,Xc.tab_fr ht hf (by show ¬ _ = _;omega),(hk _ (by omega) (by omega)).trans hp,(hk _ (by omega) (by omega)).trans hnb,(hk _ (by omega) (by omega)).trans ha,hr.same (fun g _ _=>hk g (by omega) (by omega)),(hk _ (by omega) (by omega)).trans hd,(hk _ (by omega) (by omega)).trans hb,?_⟩
 ·rcases h2 j hj with e' | e' <;> omega
 ·exact hw.trans (hf.below (fun j e=>by omega) (by omega))
theorem Xc.Mk.words {F : Nat → Prop} {W : World} {gm : Nat} {tag : List UInt8} {S : Xc.S} (h : Xc.Mk F W gm tag S) : ∃ vw,W.cell? ⟨gm,2,none⟩ = some vw ∧ RdW W vw S.words:=by
 obtain ⟨vw,vo,cs,h1,h2,h3,_⟩:=h.obj
 refine ⟨vw,(h1.cell 2).trans (by simp [Xc.cells]),cs,Rd.of_own h2,?_⟩
 exact h3.mapIf (P:=fun _=>True) (fun u l _ hu=>OwnS.rd hu) (fun _ _=>trivial)
theorem XA.busy {s0 tag : List UInt8} {w : World} {rec : LoopState → Option Code → Loop} {st st' : LoopState} {k : Nat} {s : List UInt8} {X : World} (h : XA s0 tag w rec st k s X) (hT : 1 < w.heap.size) : XA s0 tag w rec st' k s (X.putObj (w.heap.size + 9) (.loop (rec st' none))):=by
 obtain ⟨⟨F,S,h1,h2,h3,h4,h5⟩,hn,hs,ht,hp,hnb,ha,hr,hd,hb,hw⟩:=h
 have hz:=(Array.getElem?_eq_some_iff.1 hb).1
 have hk : ∀ g,g ≠ w.heap.size + 9 → (X.putObj (w.heap.size + 9) (.loop (rec st' none))).heap[g]? = X.heap[g]?:=fun g hg=>World.putObj_heap_other hg
 have hf : Fr (fun j=>j = w.heap.size + 9) X (X.putObj (w.heap.size + 9) (.loop (rec st' none))):=⟨rfl,rfl,rfl,by rw [World.putObj_size];exact Nat.le_refl _,fun g _ hg=>hk g hg⟩
 exact ⟨⟨F,S,h1.fr hf (fun j hj e=>by rcases h2 j hj with e' | e' <;> omega),h2,h3,h4,h5⟩,hn,hs,Xc.tab_fr ht hf (by show ¬ _ = _;omega),(hk _ (by omega)).trans hp,(hk _ (by omega)).trans hnb,(hk _ (by omega)).trans ha,hr.same (fun g _ _=>hk g (by omega)),(hk _ (by omega)).trans hd,World.putObj_heap_same hz,Below.put hw _ _ (by omega)⟩
theorem XA.stop {s0 tag : List UInt8} {w : World} {rec : LoopState → Option Code → Loop} {i c : Nat} {Y Z : World} (hr : XRes w.heap.size [] 0 0 Z) (hd : Z.heap[w.heap.size + 8]? = some (.deferred (some []))) (hb : Z.heap[w.heap.size + 9]? = some (.loop (rec .busy none))) (hw : Below w.heap.size w Z)
  (hc : Xc.comp tag 0 Xc.start (L6.split s0) = .bad i c) (hY : xput3 Z w.heap.size (.string ⟨#[]⟩) (.int .i64 (i : Int)) (.int .i64 (c : Int)) = Y) :
  Y.drew.heap[w.heap.size + 9]? = some (.loop (rec .busy none)) ∧ XX s0 tag w rec (Y.drew.putObj (w.heap.size + 9) (.loop (rec .done (some .ret)))):=by
 subst hY
 have h9:=(xput3_other Z w.heap.size (.string ⟨#[]⟩) (.int .i64 (i : Int)) (.int .i64 (c : Int)) (w.heap.size + 9) (by omega)).trans hb
 have h8:=(xput3_other Z w.heap.size (.string ⟨#[]⟩) (.int .i64 (i : Int)) (.int .i64 (c : Int)) (w.heap.size + 8) (by omega)).trans hd
 have hr' : XRes w.heap.size [] i c _:=hr.put3 (v':=[]) (i':=i) (c':=c)
 have hbl : Below w.heap.size w (xput3 Z w.heap.size (.string ⟨#[]⟩) (.int .i64 (i : Int)) (.int .i64 (c : Int))).drew:=(xput3_below hw).drew
 refine ⟨h9,⟨i,c,hr'.same (fun g _ _=>World.putObj_heap_other (w:=World.drew _) (by omega)),hc⟩,(World.putObj_heap_other (w:=World.drew _) (by omega)).trans h8,World.putObj_heap_same (w:=World.drew _) (Array.getElem?_eq_some_iff.1 h9).1,Below.put hbl _ _ (by omega)⟩
theorem XA.more {s0 tag : List UInt8} {w : World} {rec : LoopState → Option Code → Loop} {k : Nat} {s' : List UInt8} {S1 : Xc.S} {F F' : Nat → Prop} {Y Z : World} (hT : 1 < w.heap.size) (hF : ∀ j,F j → j = w.heap.size + 3 ∨ w.heap.size + 10 ≤ j) (hz : w.heap.size + 10 ≤ Y.heap.size)
  (ht : L6.Tab Y) (hp : Bk Y (w.heap.size + 4) 131 #[.pointer (some ⟨w.heap.size + 3,0,none⟩)]) (hn : Bk Y (w.heap.size + 5) 3 #[.int .i64 ((k + 1 : Nat) : Int)]) (ha : Bk Y (w.heap.size + 6) 4 #[.bool false]) (hbs : Bk Y (w.heap.size + 7) 9 (L6.bx s'))
  (hr : XRes w.heap.size [] 0 0 Y) (hd : Y.heap[w.heap.size + 8]? = some (.deferred (some []))) (hb : Y.heap[w.heap.size + 9]? = some (.loop (rec .busy none))) (hw : Below w.heap.size w Y)
  (hm : Xc.Mk F' Z (w.heap.size + 3) tag S1) (hs : Step F Y F' Z) (hc : Xc.comp tag 0 Xc.start (L6.split s0) = Xc.comp tag (k + 1) S1 (L6.split s')) (hl : Xc.Lim 0 (s0.length - s'.length) S1) (hf : Xc.FlW S1.words) (hnum : k + 1 + (L6.split s').length = (L6.split s0).length) (hsl : s'.length ≤ s0.length) :
  Z.heap[w.heap.size + 9]? = some (.loop (rec .busy none)) ∧ XA s0 tag w rec .ready (k + 1) s' (Z.putObj (w.heap.size + 9) (.loop (rec .ready none))) ∧ Bk (Z.putObj (w.heap.size + 9) (.loop (rec .ready none))) (w.heap.size + 7) 9 (L6.bx s'):=by
 have hk : ∀ g,g < w.heap.size + 10 → g ≠ w.heap.size + 3 → Z.heap[g]? = Y.heap[g]?:=fun g h1 h2=>hs.fr.block g (by omega) (fun e=>by rcases hF g e with e | e <;> omega)
 have hFt : ¬ F 1:=fun e=>by rcases hF _ e with e | e <;> omega
 have hF' : ∀ j,F' j → j = w.heap.size + 3 ∨ w.heap.size + 10 ≤ j:=fun j hj=>(hs.new j hj).elim (hF j) (fun e=>.inr (by omega))
 have hA : XA s0 tag w rec .busy (k + 1) s' Z:=⟨⟨F',S1,hm,hF',hc,hl,hf⟩,hnum,hsl,Xc.tab_fr ht hs.fr hFt,(hk _ (by omega) (by omega)).trans hp,(hk _ (by omega) (by omega)).trans hn,(hk _ (by omega) (by omega)).trans ha,hr.same (fun g h1 h2=>hk g (by omega) (by omega)),
  (hk _ (by omega) (by omega)).trans hd,(hk _ (by omega) (by omega)).trans hb,hw.trans (hs.below (fun j hj=>by rcases hF j hj with e | e <;> omega) (by omega))⟩
 exact ⟨hA.rb,hA.busy hT,(World.putObj_heap_other (by omega)).trans ((hk _ (by omega) (by omega)).trans hbs)⟩
theorem Xc.comp_cons {tag t : List UInt8} {n : Nat} {S : Xc.S} {r : List (List UInt8)} (h : Xc.comp tag n S (t :: r) ≠ .stuck) : ¬ (S.within = false ∧ S.number = [] ∧ Xc.alone t Xc.tAsm = true) ∧ Xc.line tag (t.length + 1) (Xc.atRest t S) ≠ .stuck ∧
  Xc.comp tag n S (t :: r) = match Xc.line tag (t.length + 1) (Xc.atRest t S) with | .ok S1=>Xc.comp tag (n + 1) S1 r | .bad e=>.bad (n + 1) e | .stuck=>.stuck:=by
 unfold Xc.comp at h
 split at h
 ·exact absurd rfl h
 ·rename_i h1
  refine ⟨h1,fun e=>?_,by rw [Xc.comp,if_neg h1];cases Xc.line tag (t.length + 1) (Xc.atRest t S) <;> rfl⟩
  rw [e] at h
  exact h rfl
theorem Xc.keep3 {F F3 : Nat → Prop} {w Y Y2 W3 : World} (hF : ∀ j,F j → j = w.heap.size + 3 ∨ w.heap.size + 10 ≤ j) (hz : w.heap.size + 10 ≤ Y.heap.size) (hb : Below Y.heap.size Y Y2) (st : Step F Y2 F3 W3) : ∀ g,g < w.heap.size + 10 → g ≠ w.heap.size + 3 → W3.heap[g]? = Y.heap[g]?:=fun g h1 h2=>
 (st.fr.block g (by have:=hb.size;omega) (fun e=>by rcases hF g e with e | e <;> omega)).trans (hb.block g (by omega))
theorem Xc.Lim.up {j N M : Nat} {S : Xc.S} (h : Xc.Lim j N S) (hM : N ≤ M) : Xc.Lim j M S:=⟨by have:=h.weight;omega,by have:=h.opens;omega,by have:=h.made;omega,h.name,h.labs,h.has⟩
theorem Xc.compile_some {tag s : List UInt8} (h : Xc.compile tag s ≠ none) : Xc.comp tag 0 Xc.start (L6.split s) ≠ .stuck:=by
 unfold Xc.compile at h
 intro e
 rw [e] at h
 exact h rfl
set_option maxRecDepth 100000 in
set_option maxHeartbeats 2000000 in
theorem xcompile_any (s : List UInt8) (w : World) (hs : s.length ≤ 30000) (hT : L6.Tab w) (hns : Xc.compile [76] s ≠ none) : Calls Tryz.prog 27 #[.string ⟨s.toArray⟩,.string ⟨#[76]⟩] w (Xc.CPost w [76] s):=by
 refine (callsIn_wide (n:=20)).1 ?_
 refine callsIn_of_wp_marks Tryz.func27 rfl trivial ?_ rfl
 simp only [Tryz.ntmps27,List.size_toArray,List.length_cons,List.length_nil,Nat.reduceAdd,Nat.reduceSub,Array.replicate_succ,Array.replicate_zero,List.push_toArray,List.append_toArray,List.nil_append,List.cons_append]
 have HS:=Lib.hid hs
 have HNS:=Lib.hid hns
 have HT:=Lib.hid hT
 clear hs hns hT
 have mixed : Tryz.prog.follows .mixedOrders = true:=by kernel_rfl
 have CR:=Lib.hid (fun W=>(xright_own ⟨#[76]⟩ W (by decide)).mono (R':=fun e w'=>e = .returned (.bool true) ∧ W = w') (fun e w' h=>⟨h.1,h.2⟩))
 gi_upto_region 5 with (refine ⟨trivial,?_⟩;gi_at_call 59;refine (callsIn_wide.2 (CR.out _)).mono ?_;rintro e w' ⟨rfl,rfl⟩)
 simp only [Nat.add_assoc,Nat.reduceAdd]
 gi_wp2_with (refine ⟨trivial,?_⟩;gi_at_call 62;refine (lines_in _ s _).mono ?_;rintro e w' ⟨rfl,rfl⟩)
 generalize hW1 : World.alloc _ _ = W1
 obtain ⟨b0,b1,b2,b3,b4,b5,b6,b7,bw,bz⟩:=alloc8 w _ _ _ _ _ _ _ _ _ _ _ _ _ _ _ _ hW1
 clear hW1
 have hlt:=F8.tab_lt HT.out
 have hT1:=HT.out.kept bw
 have hMk : Xc.Mk (fun j=>j = w.heap.size + 3) W1 (w.heap.size + 3) [76] Xc.start:=
  ⟨⟨.slice none 0 0,.slice none 0 0,[],b3,World.ownsRow_nil _ _ _ _,rfl,List.nodup_nil,World.ownsRow_nil _ _ _ _,fun k hk=>(by cases hk),fun k hk=>(by cases hk),fun k hk=>(by simp [Xc.blks] at hk)⟩,rfl,fun k hk=>by subst hk;omega⟩
 have hRes : XRes w.heap.size [] 0 0 W1:=⟨b0,b1,b2⟩
 clear b0 b1 b2 b3
 refine range_at (gf:=117) (lb:=#[.pointer (some ⟨w.heap.size + 7,0,none⟩)]) rfl (enters_of Tryz.func117 (by kernel_rfl) rfl)
  (fun fn X=>∃ k rec,XA s [76] w rec .ready k [] X) (fun fn c X=>∃ rec,XX s [76] w rec X ∧ c = .ret) ?call ?done ?stop
 case done=>
  rintro fn X ⟨k,rec,h⟩
  rw [bz]
  generalize hex : X.putObj (w.heap.size + 8 + 1) _ = X'
  have hx : ∀ g,g ≠ w.heap.size + 9 → X'.heap[g]? = X.heap[g]?:=fun g hg=>by rw [← hex];exact World.putObj_heap_other hg
  have hf9 : Fr (fun j=>j = w.heap.size + 9) X X':=by
   rw [← hex]
   exact ⟨rfl,rfl,rfl,by rw [World.putObj_size];exact Nat.le_refl _,fun g _ hg=>World.putObj_heap_other hg⟩
  have hbw : Below w.heap.size w X':=by rw [← hex];exact Below.put h.below _ _ (by omega)
  obtain ⟨⟨F,S,hm,hF,hc,hl,hfl⟩,hn,hsl,ht,hp,hnb,ha,hres,hd,hrb,hw⟩:=h
  have hm':=hm.fr hf9 (fun j hj e=>by rcases hF j hj with e' | e' <;> omega)
  have ht':=Xc.tab_fr ht hf9 (by show ¬ _ = _;omega)
  have hxb : ∀ {g : Nat} {ty : TypeId} {cs : Array Value},g ≠ w.heap.size + 9 → Bk X g ty cs → Bk X' g ty cs:=fun hg hb=>(hx _ hg).trans hb
  have c4:=(hxb (by omega) hp).cell 0
  have c5:=(hxb (by omega) hnb).cell 0
  have c6:=(hxb (by omega) ha).cell 0
  have hr':=hres.same (X':=X') (fun g _ _=>hx g (by omega))
  have hd':=(hx (w.heap.size + 8) (by omega)).trans hd
  have z0:=hr'.b0.cell 0
  have y0:=hr'.b0.free 0
  have z1:=hr'.b1.cell 0
  have y1:=hr'.b1.free 0
  have z2:=hr'.b2.cell 0
  have y2:=hr'.b2.free 0
  have hsn:=hm'.seen
  have d3:=hsn.c3
  have d7:=hsn.c7
  have hkn : k ≤ 30001:=by
   have h1:=L6.split_len s
   have h2 : s.count 10 ≤ s.length:=List.count_le_length
   have h3 : (L6.split s).length ≤ s.count 10 + 1:=by rw [h1];split <;> omega
   have hsz:=HS.out
   omega
  have hw1 : IntKind.i64.wrap ((k : Int) + 1) = (k : Int) + 1:=by rw [IntKind.wrap_i64];omega
  have hlt8:=(Array.getElem?_eq_some_iff.1 hd').1
  simp only [List.getElem?_toArray,List.getElem?_cons_zero] at c4 c5 c6 z0 z1 z2
  rw [show L6.split [] = [] from rfl] at hc
  rw [Xc.comp] at hc
  have HR:=Lib.hid hr'
  have HD:=Lib.hid hd'
  have HBW:=Lib.hid hbw
  have HFE:=Lib.hid (fun (i c : Nat) (Y : World) (hY : xput3 X' w.heap.size (.string ⟨#[]⟩) (.int .i64 (i : Int)) (.int .i64 (c : Int)) = Y)=>show Y.drew.heap[w.heap.size + 8]? = some (.deferred (some [])) ∧ XRes w.heap.size [] i c Y.drew ∧ Below w.heap.size w Y.drew from by
   subst hY
   exact ⟨(xput3_other _ _ _ _ _ _ (by omega)).trans hd',(hr'.put3 (v':=[]) (i':=i) (c':=c)).same (fun g _ _=>rfl),(xput3_below hbw).drew⟩)
  clear hex hx hf9 hbw hm hp hnb ha hres hd hrb hw hn hxb ht hsn hr' hd'
  cases hwi : S.within
  ·rw [hwi,if_neg (by decide)] at hc
   rw [hwi] at d3
   by_cases hnu : S.number = []
   ·rw [hnu,if_neg (by simp)] at hc
    rw [hnu] at d7
    obtain ⟨vw,hv2,hrd⟩:=hm'.words
    have HRW:=Lib.hid hrd
    have CT:=Lib.hid (xtext_any vw S.words X' hrd (by have:=hl.weight;have:=HS.out;simp at this ⊢;omega) hfl)
    have HC:=Lib.hid hc
    clear hwi hnu hm' ht' hl hfl hF hc hrd
    obtain ⟨AW,cW,rfl⟩:=HRW.out.len
    gi_wp2_with (refine ⟨trivial,?_⟩;gi_at_call 67;refine (callsIn_wide.2 CT.out).mono ?_;rintro e W3 ⟨rfl,hb3⟩;have HB3:=Lib.hid hb3;have hres3:=HR.out.same (X':=W3) (fun g _ _=>hb3.block g (by omega));have z0:=hres3.b0.cell 0;have y0:=hres3.b0.free 0;have z1:=hres3.b1.cell 0;have y1:=hres3.b1.free 0;have z2:=hres3.b2.cell 0;have y2:=hres3.b2.free 0;simp only [List.getElem?_toArray,List.getElem?_cons_zero] at z0 z1 z2;have HR3:=Lib.hid hres3;clear hb3 hres3)
    have HX:=Lib.hid (show XRes w.heap.size (Xc.text S.words) 0 0 (xput3 W3 w.heap.size (.string ⟨(Xc.text S.words).toArray⟩) (.int .i64 ((0 : Nat) : Int)) (.int .i64 ((0 : Nat) : Int))) from HR3.out.put3)
    refine ⟨by simp,.inl ⟨_,_,rfl,run_takeDeferred (((xput3_other W3 w.heap.size _ _ _ _ (by omega)).trans (HB3.out.block _ (by omega))).trans HD.out),?_⟩⟩
    exact ⟨_,xcomp_results (HX.out.same (fun g _ _=>World.putObj_heap_other (by omega))) rfl rfl rfl,⟨(Xc.text S.words,0,0),by unfold Xc.compile;rw [HC.out],rfl⟩,Below.put (xput3_below (HBW.out.trans (HB3.out.mono HBW.out.size))) _ _ (by omega)⟩
   ·rw [if_pos hnu] at hc
    have g7 : (S.number == ([] : List UInt8)) = false:=by simpa using hnu
    have g7b : (S.number != ([] : List UInt8)) = true:=by simpa using hnu
    have g7c : (!S.number == ([] : List UInt8)) = true:=by simpa using hnu
    have HC:=Lib.hid hc
    have HE:=Lib.hid (HFE.out (k + 1) 40)
    clear hwi hnu hm' ht' hl hfl hF hc
    gi_wp2_with fail
    gi_region_o
    all_goals gi_wp2_with fail
    all_goals refine ⟨by simp,.inl ⟨_,_,rfl,run_takeDeferred (HE.out _ rfl).1,?_⟩⟩
    all_goals exact ⟨_,xcomp_results ((HE.out _ rfl).2.1.same (fun g _ _=>World.putObj_heap_other (by omega))) rfl rfl rfl,⟨([],k + 1,40),by unfold Xc.compile;rw [HC.out],rfl⟩,Below.put (HE.out _ rfl).2.2 _ _ (by omega)⟩
  ·rw [hwi,if_pos rfl] at hc
   rw [hwi] at d3
   have HC:=Lib.hid hc
   have HE:=Lib.hid (HFE.out (k + 1) 44)
   clear hwi hm' ht' hl hfl hF hc
   gi_wp2_with fail
   gi_region_o
   all_goals gi_wp2_with fail
   all_goals refine ⟨by simp,.inl ⟨_,_,rfl,run_takeDeferred (HE.out _ rfl).1,?_⟩⟩
   all_goals exact ⟨_,xcomp_results ((HE.out _ rfl).2.1.same (fun g _ _=>World.putObj_heap_other (by omega))) rfl rfl rfl,⟨([],k + 1,44),by unfold Xc.compile;rw [HC.out],rfl⟩,Below.put (HE.out _ rfl).2.2 _ _ (by omega)⟩
 case stop=>
  rintro fn c X ⟨rec,h,rfl⟩
  rw [bz]
  gi_wp2
  refine ⟨by simp,.inl ⟨_,_,rfl,run_takeDeferred ((World.putObj_heap_other (by omega)).trans h.db),?_⟩⟩
  obtain ⟨i,c,hr,hp⟩:=h.res
  refine ⟨_,xcomp_results ((hr.same (X':=X.putObj (w.heap.size + 9) _) (fun g _ _=>World.putObj_heap_other (by omega))).same (fun g _ _=>World.putObj_heap_other (by omega))) rfl rfl rfl,⟨([],i,c),by unfold Xc.compile;rw [hp],rfl⟩,Below.put (Below.put h.below _ _ (by omega)) _ _ (by omega)⟩
 case call=>
  intro fn
  rw [bz]
  generalize hrec : (rec_ fn _ _ _ _ (w.heap.size + 8)) = rec
  show CallsIn Fence.wide 19 Tryz.prog 117 #[.func (.yield (w.heap.size + 9)) #[] #[],.pointer (some ⟨w.heap.size + 7,0,none⟩)] _ _
  have hbw3 : Below W1.heap.size W1 ((W1.alloc (.deferred (some []))).alloc (.loop (rec .ready none))):=((Below.refl _ _).alloc (Nat.le_refl _) _).alloc (by simp) _
  have hd3 : ((W1.alloc (.deferred (some []))).alloc (.loop (rec .ready none))).heap[w.heap.size + 8]? = some (.deferred (some [])):=by
   have:=(Below.heap_alloc (W1.alloc (.deferred (some []))) (.loop (rec .ready none)) W1.heap.size (by simp)).trans (World.alloc_heap_new W1 _)
   rwa [bz] at this
  have hr3 : ((W1.alloc (.deferred (some []))).alloc (.loop (rec .ready none))).heap[w.heap.size + 9]? = some (.loop (rec .ready none)):=by
   have:=World.alloc_heap_new (W1.alloc (.deferred (some []))) (.loop (rec .ready none))
   rwa [World.size_alloc,bz] at this
  have hXA : XA s [76] w rec .ready 0 s ((W1.alloc (.deferred (some []))).alloc (.loop (rec .ready none))):=
   ⟨⟨_,Xc.start,hMk.kept hbw3,fun j hj=>.inl hj,rfl,by simpa using (⟨by simp [Xc.start,Xc.weight],by simp [Xc.start],by simp [Xc.start],by simp [Xc.start],fun p hp=>by simp [Xc.start] at hp,fun h=>by cases h⟩ : Xc.Lim 0 0 Xc.start),fun x hx=>by simp [Xc.start] at hx⟩,by simp,Nat.le_refl _,hT1.kept hbw3,b4.kept hbw3,b5.kept hbw3,b6.kept hbw3,hRes.same (fun g _ _=>hbw3.block g (by omega)),hd3,hr3,bw.trans (hbw3.mono (by omega))⟩
  have hbs:=b7.kept hbw3
  generalize (W1.alloc (.deferred (some []))).alloc (.loop (rec .ready none)) = W2 at hXA hbs ⊢
  clear hbw3 hd3 hr3 hMk hRes hT1 b4 b5 b6 b7
  refine (lines1_in 19 (w.heap.size + 9) (w.heap.size + 7) (by omega) (fun s' X=>∃ k,XA s [76] w rec .ready k s' X) (fun X=>XX s [76] w rec X) ?_ ?_ s (by have:=HS.out;omega) ?_ W2 ⟨0,hXA⟩ hbs).mono ?_
  ·rintro s' X u ⟨k,h⟩
   exact ⟨k,h.but hlt (Fr.setCell X _ 0 u rfl)⟩
  ·rintro s' X ⟨k,h⟩
   exact ⟨k,h.but hlt (Fr.refl _ _).drew⟩
  ·rintro s' X hs' hle ⟨k,h⟩ hbs'
   have hr:=h.rb
   rw [← hrec] at hr
   refine yield_at hr rfl _ (fun K hK=>by gi_wp2;exact hK) ?_
   rw [hrec]
   have hB:=h.busy (st':=.busy) hlt
   have hbs2 : Bk (X.putObj (w.heap.size + 9) (.loop (rec .busy none))) (w.heap.size + 7) 9 (L6.bx (L6.piece s').2):=(World.putObj_heap_other (by omega)).trans hbs'
   generalize X.putObj (w.heap.size + 9) (.loop (rec .busy none)) = X1 at hB hbs2 ⊢
   clear h hr hbs' hbs hXA
   obtain ⟨⟨F,S,hm,hF,hc,hl,hf⟩,hn,hsl,ht,hp,hnb,ha,hres,hd,hrb,hw⟩:=hB
   rw [L6.split_piece hs'] at hc hn
   have hns1:=Xc.compile_some HNS.out
   rw [hc] at hns1
   obtain ⟨hna,hnl,hce⟩:=Xc.comp_cons hns1
   rw [hce] at hc
   clear hce hns1
   have happ:=congrArg List.length (L6.piece_app s')
   rw [List.length_append] at happ
   have htr:=L6.trim_len (L6.piece s').1
   have hsz:=HS.out
   have CT:=Lib.hid (fun Z=>(Tryz.strings_TrimSuffix ⟨(L6.piece s').1.toArray⟩ ⟨#[10]⟩ Z (by simp [ByteArray.size];omega)).mono (R':=fun e w'=>e = .returned (.string ⟨(L6.trim (L6.piece s').1).toArray⟩) ∧ Z = w') (fun e w' h=>⟨h.1,by first | exact h.2 | exact h.2.symm⟩))
   have hlim:=hl.line (L6.trim (L6.piece s').1)
   generalize L6.trim (L6.piece s').1 = t at *
   generalize hp1 : (L6.piece s').1 = p1 at *
   generalize hp2 : (L6.piece s').2 = s2 at *
   have hkn : k ≤ 30001:=by
    have h1:=L6.split_len s
    have h2 : s.count 10 ≤ s.length:=List.count_le_length
    have h3 : (L6.split s).length ≤ s.count 10 + 1:=by rw [h1];split <;> omega
    rw [List.length_cons] at hn
    omega
   have hw1 : IntKind.i64.wrap ((k : Int) + 1) = (k : Int) + 1:=by rw [IntKind.wrap_i64];omega
   have c5:=hnb.cell 0
   have f5:=hnb.free 0
   simp only [List.getElem?_toArray,List.getElem?_cons_zero] at c5
   gi_wp2_with fail
   have hcs:=Fr.setCell (F:=fun j=>j = w.heap.size + 5) X1 (w.heap.size + 5) 0 (.int .i64 ((k : Int) + 1)) rfl
   have hzz:=hcs.size
   have hlt9:=(Array.getElem?_eq_some_iff.1 hrb).1
   have hk : ∀ g,g ≠ w.heap.size + 5 → (X1.setCell ⟨w.heap.size + 5,0,none⟩ (.int .i64 ((k : Int) + 1))).heap[g]? = X1.heap[g]?:=fun g hg=>Below.heap_setCell _ _ _ _ hg
   have hkb : ∀ {g : Nat} {ty : TypeId} {cs : Array Value},g ≠ w.heap.size + 5 → Bk X1 g ty cs → Bk (X1.setCell ⟨w.heap.size + 5,0,none⟩ (.int .i64 ((k : Int) + 1))) g ty cs:=fun hg hb=>(hk _ hg).trans hb
   have hm':=hm.fr hcs (fun j hj e=>by rcases hF j hj with e' | e' <;> omega)
   have ht':=Xc.tab_fr ht hcs (by show ¬ _ = _;omega)
   have hp':=hkb (by omega) hp
   have ha':=hkb (by omega) ha
   have hbs':=hkb (by omega) hbs2
   have hres':=hres.same (X':=X1.setCell ⟨w.heap.size + 5,0,none⟩ (.int .i64 ((k : Int) + 1))) (fun g _ _=>hk g (by omega))
   have hd':=(hk (w.heap.size + 8) (by omega)).trans hd
   have hrb':=(hk (w.heap.size + 9) (by omega)).trans hrb
   have hnb' : Bk (X1.setCell ⟨w.heap.size + 5,0,none⟩ (.int .i64 ((k : Int) + 1))) (w.heap.size + 5) 3 #[.int .i64 ((k + 1 : Nat) : Int)]:=by
    have:=hnb.set 0 (.int .i64 ((k : Int) + 1))
    simpa using this
   have hw':=hw.trans (hcs.below (B:=w.heap.size) (fun j e=>by omega) (by omega))
   have hzY : w.heap.size + 10 ≤ (X1.setCell ⟨w.heap.size + 5,0,none⟩ (.int .i64 ((k : Int) + 1))).heap.size:=by omega
   generalize X1.setCell ⟨w.heap.size + 5,0,none⟩ (.int .i64 ((k : Int) + 1)) = Y at *
   clear hm ht hp ha hbs2 hres hd hrb hnb hw hcs hk hkb c5 f5 hzz hlt9
   have HTB:=Lib.hid (show Xc.Tb F Y from ⟨ht',fun e=>by rcases hF _ e with e | e <;> omega⟩)
   have CL:=Lib.hid (fun W (hm : Xc.Mk F W (w.heap.size + 3) [76] S) (hT : Xc.Tb F W)=>xline_any hm hT (by decide) t hlim (by omega) hf hnl)
   have HLD:=Lib.hid (fun S1 (h : Xc.line [76] (t.length + 1) (Xc.atRest t S) = .ok S1)=>(hlim.lineD (tag:=[76]) (by decide) (by omega) _ h).up (M:=s.length - s2.length) (by omega))
   have HFL:=Lib.hid (fun S1 (h : Xc.line [76] (t.length + 1) (Xc.atRest t S) = .ok S1)=>Xc.fl_line _ (D:=Xc.atRest t S) hf h)
   have HLB:=Lib.hid (fun c (h : Xc.line [76] (t.length + 1) (Xc.atRest t S) = .bad c)=>Xc.line_bad _ h)
   have HNUM:=Lib.hid (show k + 1 + (L6.split s2).length = (L6.split s).length from by rw [List.length_cons] at hn;omega)
   have HSL2:=Lib.hid (show s2.length ≤ s.length from by omega)
   have HM:=Lib.hid hm'
   have HTY:=Lib.hid ht'
   have HP:=Lib.hid hp'
   have HA:=Lib.hid ha'
   have HBS:=Lib.hid hbs'
   have HRES:=Lib.hid hres'
   have HD:=Lib.hid hd'
   have HRB:=Lib.hid hrb'
   have HNB:=Lib.hid hnb'
   have HW:=Lib.hid hw'
   have HZY:=Lib.hid hzY
   have HF:=Lib.hid hF
   have CA:=Lib.hid (fun W=>xalone_any t Xc.tAsm W (by omega))
   have HNA:=Lib.hid hna
   have HC:=Lib.hid hc
   have hsn:=hm'.seen
   have d3:=hsn.c3
   have d7:=hsn.c7
   have c4:=hp'.cell 0
   have c6:=ha'.cell 0
   simp only [List.getElem?_toArray,List.getElem?_cons_zero] at c4 c6
   -- ways
   have HNL:=Lib.hid hnl
   clear hm' ht' hp' ha' hbs' hres' hd' hrb' hnb' hw' hzY hF hsn hna hnl hc hl hf hlim hn happ htr hkn hw1 hle hsl
   cases hwi : S.within
   ·rw [hwi] at d3
    by_cases hnu : S.number = []
    ·have HAF:=Lib.hid (show Xc.alone t Xc.tAsm = false from by
      cases ha : Xc.alone t Xc.tAsm
      ·rfl
      ·exact absurd ⟨hwi,hnu,ha⟩ HNA.out)
     rw [hnu] at d7
     have CA:=Lib.hid (fun W=>(CA.out W).mono (R':=fun e w'=>e = .returned (.bool false) ∧ Below W.heap.size W w') (fun e w' h=>⟨by rw [h.1,HAF.out],h.2⟩))
     clear hwi hnu HNA
     gi_wp2_with (refine ⟨trivial,?_⟩;gi_at_call 63;refine (CallsIn.inRound _ (callsIn_wide.2 (CT.out _))).mono ?_;rintro e w' ⟨rfl,rfl⟩)
     refine ⟨trivial,?_⟩
     gi_wp2_with fail
     refine ⟨trivial,?_⟩
     gi_at_call 64
     refine (CallsIn.inRound _ (callsIn_wide.2 (CA.out _))).mono ?_
     rintro e Y2 ⟨rfl,hby⟩
     have HBY:=Lib.hid hby
     have hm2:=(HM.out.kept hby).seen
     have c4':=(HP.out.kept hby).cell 0
     simp only [List.getElem?_toArray,List.getElem?_cons_zero] at c4'
     clear hby hm2 d3 d7 c4 c6
     gi_wp2_with fail
     refine ⟨trivial,?_⟩
     cases hR : Xc.line [76] (t.length + 1) (Xc.atRest t S) with
     | stuck=>exact absurd hR HNL.out
     | bad c=>
      have HB2:=Lib.hid (CL.out Y2 (HM.out.kept HBY.out) (HTB.out.kept HBY.out))
      rw [hR] at HB2
      have HCC:=HC.out
      rw [hR] at HCC
      have HC2:=Lib.hid HCC
      have hne0 : ((c : Int) != 0) = true:=by rcases HLB.out c hR with rfl | rfl | rfl <;> decide
      clear HCC hR HC CL HLD HFL HLB
      gi_at_call 66
      refine (CallsIn.inRound _ (callsIn_wide.2 HB2.out)).mono ?_
      rintro e W3 ⟨rfl,F3,st3⟩
      have HK3:=Lib.hid (Xc.keep3 HF.out HZY.out HBY.out st3)
      have HW3:=Lib.hid (show Below w.heap.size w W3 from (HW.out.trans (HBY.out.mono (by have:=HZY.out;omega))).trans (st3.below (fun j hj=>by rcases HF.out j hj with e | e <;> omega) (by have:=HZY.out;have:=HBY.out.size;omega)))
      have hres3:=HRES.out.same (X':=W3) (fun g _ _=>HK3.out g (by omega) (by omega))
      have hn3 : Bk W3 (w.heap.size + 5) 3 #[.int .i64 ((k + 1 : Nat) : Int)]:=(HK3.out _ (by omega) (by omega)).trans HNB.out
      have z0:=hres3.b0.cell 0
      have y0:=hres3.b0.free 0
      have z1:=hres3.b1.cell 0
      have y1:=hres3.b1.free 0
      have z2:=hres3.b2.cell 0
      have y2:=hres3.b2.free 0
      have z5:=hn3.cell 0
      simp only [List.getElem?_toArray,List.getElem?_cons_zero] at z0 z1 z2 z5
      have HR3:=Lib.hid hres3
      clear st3 hres3 hn3
      gi_wp2_with fail
      gi_region_with_o (fail)
      all_goals gi_wp2_with fail
      all_goals first
       | exact ⟨(XA.stop HR3.out ((HK3.out _ (by omega) (by omega)).trans HD.out) ((HK3.out _ (by omega) (by omega)).trans HRB.out) HW3.out HC2.out rfl).1,.inr ⟨rfl,(XA.stop HR3.out ((HK3.out _ (by omega) (by omega)).trans HD.out) ((HK3.out _ (by omega) (by omega)).trans HRB.out) HW3.out HC2.out rfl).2⟩⟩
     | ok S1=>
      have HB2:=Lib.hid (CL.out Y2 (HM.out.kept HBY.out) (HTB.out.kept HBY.out))
      rw [hR] at HB2
      have HCC:=HC.out
      rw [hR] at HCC
      have HC2:=Lib.hid HCC
      have HL2:=Lib.hid (HLD.out S1 hR)
      have HF2:=Lib.hid (HFL.out S1 hR)
      clear HCC hR HC CL HLD HFL HLB
      gi_at_call 66
      refine (CallsIn.inRound _ (callsIn_wide.2 HB2.out)).mono ?_
      rintro e W3 ⟨rfl,F3,hm3,st3⟩
      gi_wp2_with fail
      have hzz:=HZY.out
      obtain ⟨r1,r2,r3⟩:=XA.more (rec:=rec) (s0:=s) hlt HF.out (show w.heap.size + 10 ≤ Y2.heap.size from by have:=HBY.out.size;omega) (HTB.out.kept HBY.out).1 (HP.out.kept HBY.out) (HNB.out.kept HBY.out) (HA.out.kept HBY.out) (HBS.out.kept HBY.out) (HRES.out.same (fun g _ _=>HBY.out.block g (by omega)))
       ((HBY.out.block _ (by omega)).trans HD.out) ((HBY.out.block _ (by omega)).trans HRB.out) (HW.out.trans (HBY.out.mono (by omega))) hm3 st3 HC2.out HL2.out HF2.out HNUM.out HSL2.out
      exact ⟨r1,.inl ⟨rfl,⟨k + 1,r2⟩,r3⟩⟩
    ·have g7 : (S.number == ([] : List UInt8)) = false:=by simpa using hnu
     clear hwi hnu HNA CA
     gi_wp2_with (refine ⟨trivial,?_⟩;gi_at_call 63;refine (CallsIn.inRound _ (callsIn_wide.2 (CT.out _))).mono ?_;rintro e w' ⟨rfl,rfl⟩)
     refine ⟨trivial,?_⟩
     gi_wp2_with fail
     refine ⟨trivial,?_⟩
     gi_wp2_with fail
     refine ⟨trivial,?_⟩
     obtain ⟨Y2,hY2⟩ : ∃ Y2,Y = Y2:=⟨_,rfl⟩
     have HBY:=Lib.hid (show Below Y.heap.size Y Y2 from hY2 ▸ Below.refl _ _)
     rw [hY2]
     cases hR : Xc.line [76] (t.length + 1) (Xc.atRest t S) with
     | stuck=>exact absurd hR HNL.out
     | bad c=>
      have HB2:=Lib.hid (CL.out Y2 (HM.out.kept HBY.out) (HTB.out.kept HBY.out))
      rw [hR] at HB2
      have HCC:=HC.out
      rw [hR] at HCC
      have HC2:=Lib.hid HCC
      have hne0 : ((c : Int) != 0) = true:=by rcases HLB.out c hR with rfl | rfl | rfl <;> decide
      clear HCC hR HC CL HLD HFL HLB
      gi_at_call 66
      refine (CallsIn.inRound _ (callsIn_wide.2 HB2.out)).mono ?_
      rintro e W3 ⟨rfl,F3,st3⟩
      have HK3:=Lib.hid (Xc.keep3 HF.out HZY.out HBY.out st3)
      have HW3:=Lib.hid (show Below w.heap.size w W3 from (HW.out.trans (HBY.out.mono (by have:=HZY.out;omega))).trans (st3.below (fun j hj=>by rcases HF.out j hj with e | e <;> omega) (by have:=HZY.out;have:=HBY.out.size;omega)))
      have hres3:=HRES.out.same (X':=W3) (fun g _ _=>HK3.out g (by omega) (by omega))
      have hn3 : Bk W3 (w.heap.size + 5) 3 #[.int .i64 ((k + 1 : Nat) : Int)]:=(HK3.out _ (by omega) (by omega)).trans HNB.out
      have z0:=hres3.b0.cell 0
      have y0:=hres3.b0.free 0
      have z1:=hres3.b1.cell 0
      have y1:=hres3.b1.free 0
      have z2:=hres3.b2.cell 0
      have y2:=hres3.b2.free 0
      have z5:=hn3.cell 0
      simp only [List.getElem?_toArray,List.getElem?_cons_zero] at z0 z1 z2 z5
      have HR3:=Lib.hid hres3
      clear st3 hres3 hn3
      gi_wp2_with fail
      gi_region_with_o (fail)
      all_goals gi_wp2_with fail
      all_goals first
       | exact ⟨(XA.stop HR3.out ((HK3.out _ (by omega) (by omega)).trans HD.out) ((HK3.out _ (by omega) (by omega)).trans HRB.out) HW3.out HC2.out rfl).1,.inr ⟨rfl,(XA.stop HR3.out ((HK3.out _ (by omega) (by omega)).trans HD.out) ((HK3.out _ (by omega) (by omega)).trans HRB.out) HW3.out HC2.out rfl).2⟩⟩
     | ok S1=>
      have HB2:=Lib.hid (CL.out Y2 (HM.out.kept HBY.out) (HTB.out.kept HBY.out))
      rw [hR] at HB2
      have HCC:=HC.out
      rw [hR] at HCC
      have HC2:=Lib.hid HCC
      have HL2:=Lib.hid (HLD.out S1 hR)
      have HF2:=Lib.hid (HFL.out S1 hR)
      clear HCC hR HC CL HLD HFL HLB
      gi_at_call 66
      refine (CallsIn.inRound _ (callsIn_wide.2 HB2.out)).mono ?_
      rintro e W3 ⟨rfl,F3,hm3,st3⟩
      gi_wp2_with fail
      have hzz:=HZY.out
      obtain ⟨r1,r2,r3⟩:=XA.more (rec:=rec) (s0:=s) hlt HF.out (show w.heap.size + 10 ≤ Y2.heap.size from by have:=HBY.out.size;omega) (HTB.out.kept HBY.out).1 (HP.out.kept HBY.out) (HNB.out.kept HBY.out) (HA.out.kept HBY.out) (HBS.out.kept HBY.out) (HRES.out.same (fun g _ _=>HBY.out.block g (by omega)))
       ((HBY.out.block _ (by omega)).trans HD.out) ((HBY.out.block _ (by omega)).trans HRB.out) (HW.out.trans (HBY.out.mono (by omega))) hm3 st3 HC2.out HL2.out HF2.out HNUM.out HSL2.out
      exact ⟨r1,.inl ⟨rfl,⟨k + 1,r2⟩,r3⟩⟩
   ·rw [hwi] at d3
    clear hwi HNA CA
    gi_wp2_with (refine ⟨trivial,?_⟩;gi_at_call 63;refine (CallsIn.inRound _ (callsIn_wide.2 (CT.out _))).mono ?_;rintro e w' ⟨rfl,rfl⟩)
    refine ⟨trivial,?_⟩
    gi_wp2_with fail
    refine ⟨trivial,?_⟩
    gi_wp2_with fail
    refine ⟨trivial,?_⟩
    obtain ⟨Y2,hY2⟩ : ∃ Y2,Y = Y2:=⟨_,rfl⟩
    have HBY:=Lib.hid (show Below Y.heap.size Y Y2 from hY2 ▸ Below.refl _ _)
    rw [hY2]
    cases hR : Xc.line [76] (t.length + 1) (Xc.atRest t S) with
    | stuck=>exact absurd hR HNL.out
    | bad c=>
     have HB2:=Lib.hid (CL.out Y2 (HM.out.kept HBY.out) (HTB.out.kept HBY.out))
     rw [hR] at HB2
     have HCC:=HC.out
     rw [hR] at HCC
     have HC2:=Lib.hid HCC
     have hne0 : ((c : Int) != 0) = true:=by rcases HLB.out c hR with rfl | rfl | rfl <;> decide
     clear HCC hR HC CL HLD HFL HLB
     gi_at_call 66
     refine (CallsIn.inRound _ (callsIn_wide.2 HB2.out)).mono ?_
     rintro e W3 ⟨rfl,F3,st3⟩
     have HK3:=Lib.hid (Xc.keep3 HF.out HZY.out HBY.out st3)
     have HW3:=Lib.hid (show Below w.heap.size w W3 from (HW.out.trans (HBY.out.mono (by have:=HZY.out;omega))).trans (st3.below (fun j hj=>by rcases HF.out j hj with e | e <;> omega) (by have:=HZY.out;have:=HBY.out.size;omega)))
     have hres3:=HRES.out.same (X':=W3) (fun g _ _=>HK3.out g (by omega) (by omega))
     have hn3 : Bk W3 (w.heap.size + 5) 3 #[.int .i64 ((k + 1 : Nat) : Int)]:=(HK3.out _ (by omega) (by omega)).trans HNB.out
     have z0:=hres3.b0.cell 0
     have y0:=hres3.b0.free 0
     have z1:=hres3.b1.cell 0
     have y1:=hres3.b1.free 0
     have z2:=hres3.b2.cell 0
     have y2:=hres3.b2.free 0
     have z5:=hn3.cell 0
     simp only [List.getElem?_toArray,List.getElem?_cons_zero] at z0 z1 z2 z5
     have HR3:=Lib.hid hres3
     clear st3 hres3 hn3
     gi_wp2_with fail
     gi_region_with_o (fail)
     all_goals gi_wp2_with fail
     all_goals first
      | exact ⟨(XA.stop HR3.out ((HK3.out _ (by omega) (by omega)).trans HD.out) ((HK3.out _ (by omega) (by omega)).trans HRB.out) HW3.out HC2.out rfl).1,.inr ⟨rfl,(XA.stop HR3.out ((HK3.out _ (by omega) (by omega)).trans HD.out) ((HK3.out _ (by omega) (by omega)).trans HRB.out) HW3.out HC2.out rfl).2⟩⟩
    | ok S1=>
     have HB2:=Lib.hid (CL.out Y2 (HM.out.kept HBY.out) (HTB.out.kept HBY.out))
     rw [hR] at HB2
     have HCC:=HC.out
     rw [hR] at HCC
     have HC2:=Lib.hid HCC
     have HL2:=Lib.hid (HLD.out S1 hR)
     have HF2:=Lib.hid (HFL.out S1 hR)
     clear HCC hR HC CL HLD HFL HLB
     gi_at_call 66
     refine (CallsIn.inRound _ (callsIn_wide.2 HB2.out)).mono ?_
     rintro e W3 ⟨rfl,F3,hm3,st3⟩
     gi_wp2_with fail
     have hzz:=HZY.out
     obtain ⟨r1,r2,r3⟩:=XA.more (rec:=rec) (s0:=s) hlt HF.out (show w.heap.size + 10 ≤ Y2.heap.size from by have:=HBY.out.size;omega) (HTB.out.kept HBY.out).1 (HP.out.kept HBY.out) (HNB.out.kept HBY.out) (HA.out.kept HBY.out) (HBS.out.kept HBY.out) (HRES.out.same (fun g _ _=>HBY.out.block g (by omega)))
      ((HBY.out.block _ (by omega)).trans HD.out) ((HBY.out.block _ (by omega)).trans HRB.out) (HW.out.trans (HBY.out.mono (by omega))) hm3 st3 HC2.out HL2.out HF2.out HNUM.out HSL2.out
     exact ⟨r1,.inl ⟨rfl,⟨k + 1,r2⟩,r3⟩⟩
  ·rintro e X ⟨hv,(⟨k,h⟩ | h)⟩
   ·exact ⟨hv,.inl ⟨h.rb,k,rec,h⟩⟩
   ·exact ⟨hv,.inr ⟨_,h.rb,rec,h,rfl⟩⟩
end Go.Proofs.YtpcpaoeajcjoiaaGreatDoor
namespace Go.Proofs.YtpcpaoeajcjoiaaGreatDoor
open Go.RowKit Kit
theorem xnum_any (n : Int) (w : World) : Calls Tryz.prog 28 #[.int .i64 n] w fun e w'=>e = .returned (.int .i64 n) ∧ w = w':=by
 go_enter Tryz.func28,Tryz.ntmps28
 go_wp2_with fail
 go_ret
 exact ⟨rfl,rfl⟩
def Xc.kSrc : List UInt8:=[58,32,65,32,53,32,59]
def Xc.kWords : List Xc.W:=[⟨[100,101,102,32,65],0,[Xc.lDown,Xc.lSave,[108,105,32,116,48,32,53],Xc.lAddi,Xc.lSw,Xc.lRa,Xc.lSp,Xc.lRet]⟩]
theorem Xc.k_comp : Xc.comp [76] 0 Xc.start (L6.split Xc.kSrc) = .ok ⟨[],Xc.kWords,false,[65],[],0,[]⟩:=by kernel_rfl
def Xc.kText : List UInt8:=[100,101,102,32,65,32,48,10] ++ (Xc.lDown ++ 10 :: (Xc.lSave ++ 10 :: ([108,105,32,116,48,32,53] ++ 10 :: (Xc.lAddi ++ 10 :: (Xc.lSw ++ 10 :: (Xc.lRa ++ 10 :: (Xc.lSp ++ 10 :: (Xc.lRet ++ [10]))))))))
theorem Xc.dec0 : Lib.decDigits 0 = [48]:=by unfold Lib.decDigits;rw [dif_pos (by decide)];rfl
theorem Xc.k_text : Xc.text Xc.kWords = Xc.kText:=by
 unfold Xc.text Xc.kWords Xc.textW
 rw [List.flatMap_cons,List.flatMap_nil]
 dsimp only
 rw [Xc.dec0]
 rfl
theorem Xc.k_compile : Xc.compile [76] Xc.kSrc = some (Xc.kText,0,0):=by
 unfold Xc.compile
 rw [Xc.k_comp]
 dsimp only
 rw [Xc.k_text]
set_option maxRecDepth 100000 in
set_option maxHeartbeats 1000000 in
theorem xknows_any (w : World) (hT : L6.Tab w) : Calls Tryz.prog 26 #[] w fun e w'=>e = .returned (.bool true) ∧ Below w.heap.size w w':=by
 have CC:=Lib.hid ((xcompile_any Xc.kSrc w (by decide) hT (by rw [Xc.k_compile];intro h;cases h)).mono (R':=fun e w'=>e = .returned (.tuple #[.string ⟨Xc.kText.toArray⟩,.int .i64 0,.int .i64 0]) ∧ Below w.heap.size w w') (by
  rintro e w' ⟨⟨r,hr,he⟩,h2⟩
  rw [Xc.k_compile] at hr
  injection hr with hr
  subst hr
  exact ⟨he,h2⟩))
 clear hT
 go_enter Tryz.func26,Tryz.ntmps26
 go_wp2_with (first | (go_at_call 27;refine CC.out.mono ?_;rintro e w1 ⟨rfl,hb1⟩) | (go_at_call 28;refine (xnum_any _ _).mono ?_;rintro e w' ⟨rfl,rfl⟩))
 go_ret
 exact ⟨rfl,hb1⟩
end Go.Proofs.YtpcpaoeajcjoiaaGreatDoor
