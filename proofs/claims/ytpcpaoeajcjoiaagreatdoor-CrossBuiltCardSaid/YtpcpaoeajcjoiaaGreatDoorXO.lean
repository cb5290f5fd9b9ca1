/- Texts joined, what is not reached left out. -/
import Derived.Test.YtpcpaoeajcjoiaaGreatDoorXN
import Derived.Test.YtpcpaoeajcjoiaaGreatDoorNP
set_option linter.unusedVariables false
set_option linter.unusedSimpArgs false
namespace Go.Proofs.YtpcpaoeajcjoiaaGreatDoor
open Go.RowKit Kit
def Xc.RPost (F : Nat → Prop) (w : World) (gm : Nat) (tag : List UInt8) (r : Xc.R) (e : Ending) (w' : World) : Prop:=
 match r with
 | .bad n=>e = .returned (.int .i64 (n : Int)) ∧ ∃ F',Step F w F' w'
 | .ok S1=>e = .returned (.int .i64 0) ∧ Xc.To F w gm tag S1 w'
 | .stuck=>False
theorem xmakes_any (c : List UInt8) (w : World) : Calls Tryz.prog 184 #[.string ⟨c.toArray⟩] w fun e w'=>e = .returned (.tuple #[.string ⟨((Xc.makes c).getD []).toArray⟩,.bool (Xc.makes c).isSome]) ∧ w = w':=by
 by_cases hColon : c = [58]
 ·subst hColon
  go_enter Tryz.func184,Tryz.ntmps184
  go_wp2_with fail
  go_ret2
  exact ⟨rfl,rfl⟩
 by_cases hColons : c = [58,58]
 ·subst hColons
  go_enter Tryz.func184,Tryz.ntmps184
  go_wp2_with fail
  go_ret2
  exact ⟨rfl,rfl⟩
 by_cases hVar : c = [86,65,82,73,65,66,76,69]
 ·subst hVar
  have CT:=Lib.hid (fun W=>Tryz.strings_TrimPrefix ⟨#[86,65,82,73,65,66,76,69]⟩ ⟨#[58,58]⟩ W)
  go_enter Tryz.func184,Tryz.ntmps184
  go_wp2_with (go_at_call 245;refine (CT.out _).mono ?_;rintro e w' ⟨rfl,rfl⟩)
  go_ret2
  exact ⟨rfl,rfl⟩
 by_cases hVars : c = [58,58,86,65,82,73,65,66,76,69]
 ·subst hVars
  have CT:=Lib.hid (fun W=>Tryz.strings_TrimPrefix ⟨#[58,58,86,65,82,73,65,66,76,69]⟩ ⟨#[58,58]⟩ W)
  go_enter Tryz.func184,Tryz.ntmps184
  go_wp2_with (go_at_call 245;refine (CT.out _).mono ?_;rintro e w' ⟨rfl,rfl⟩)
  go_ret2
  exact ⟨rfl,rfl⟩
 by_cases hCon : c = [67,79,78,83,84,65,78,84]
 ·subst hCon
  have CT:=Lib.hid (fun W=>Tryz.strings_TrimPrefix ⟨#[67,79,78,83,84,65,78,84]⟩ ⟨#[58,58]⟩ W)
  go_enter Tryz.func184,Tryz.ntmps184
  go_wp2_with (go_at_call 245;refine (CT.out _).mono ?_;rintro e w' ⟨rfl,rfl⟩)
  go_ret2
  exact ⟨rfl,rfl⟩
 by_cases hCons : c = [58,58,67,79,78,83,84,65,78,84]
 ·subst hCons
  have CT:=Lib.hid (fun W=>Tryz.strings_TrimPrefix ⟨#[58,58,67,79,78,83,84,65,78,84]⟩ ⟨#[58,58]⟩ W)
  go_enter Tryz.func184,Tryz.ntmps184
  go_wp2_with (go_at_call 245;refine (CT.out _).mono ?_;rintro e w' ⟨rfl,rfl⟩)
  go_ret2
  exact ⟨rfl,rfl⟩
 have HP:=Lib.hid (show Xc.makes c = none from by unfold Xc.makes;rw [if_neg (fun h=>h.elim hColon hColons),if_neg (fun h=>h.elim hVar hVars),if_neg (fun h=>h.elim hCon hCons)])
 have eColon : (c == [58]) = false:=by simpa using hColon
 have eColons : (c == [58,58]) = false:=by simpa using hColons
 have eVar : (c == [86,65,82,73,65,66,76,69]) = false:=by simpa using hVar
 have eVars : (c == [58,58,86,65,82,73,65,66,76,69]) = false:=by simpa using hVars
 have eCon : (c == [67,79,78,83,84,65,78,84]) = false:=by simpa using hCon
 have eCons : (c == [58,58,67,79,78,83,84,65,78,84]) = false:=by simpa using hCons
 clear hColon hColons hVar hVars hCon hCons
 go_enter Tryz.func184,Tryz.ntmps184
 go_wp2_with fail
 go_ret2
 rw [HP.out]
 exact ⟨rfl,rfl⟩
theorem Xc.Mk.setF {F : Nat → Prop} {W : World} {gm : Nat} {tag : List UInt8} {S S' : Xc.S} (h : Xc.Mk F W gm tag S) (i : Nat) (u : Value) (hw : S'.words = S.words) (ho : S'.opens = S.opens)
  (hc : ∀ vw vo,(Xc.cells S tag vw vo).setIfInBounds i u = Xc.cells S' tag vw vo) : Xc.Mk F (W.setCell ⟨gm,i,none⟩ u) gm tag S' ∧ Step F W F (W.setCell ⟨gm,i,none⟩ u):=by
 obtain ⟨vw,vo,cs,h1,h2,h3,h4,h5,h6,h7,h8⟩:=h.obj
 have hs:=But.setCell W gm i u
 have hb:=h1.set i u
 rw [hc] at hb
 refine ⟨⟨⟨vw,vo,cs,hb,?_,?_,h4,?_,h6,h7,h8⟩,h.gm,fun k hk=>?_⟩,Fr.of_but hs h.gm,fun k hk=>.inl hk⟩
 ·rw [hw];exact own_but h2 h1 (by decide) hs
 ·rw [hw]
  exact h3.mapIf (P:=fun _=>True) (fun u l _ hz=>own_but hz h1 (by decide) hs) (fun _ _=>trivial)
 ·rw [ho];exact own_but h5 h1 (by decide) hs
 ·have:=h.lt k hk;simpa [World.setCell] using this
set_option maxRecDepth 100000 in
set_option maxHeartbeats 2000000 in
theorem xbegin_any {F : Nat → Prop} {w : World} {gm : Nat} {tag : List UInt8} {S : Xc.S} (h : Xc.Mk F w gm tag S) (hok : Xc.Ok 10 S) (c : List UInt8) :
  Calls Tryz.prog 247 #[.pointer (some ⟨gm,0,none⟩),.string ⟨c.toArray⟩] w (Xc.RPost F w gm tag (Xc.begin c S)):=by
 have hsn:=h.seen
 have CN:=Lib.hid (xnext_any gm S.s w hsn.c0 (hsn.f 0) (by have:=hok.s;omega))
 obtain ⟨m1,s1⟩:=h.setF 0 (.string ⟨(Xc.rest S.s).toArray⟩) (S':=Xc.atRest (Xc.rest S.s) S) rfl rfl (fun vw vo=>by simp [Xc.cells,Xc.atRest])
 obtain ⟨m2,s2⟩:=m1.setF 4 (.string ⟨(Xc.word S.s).toArray⟩) (S':=Xc.named S) rfl rfl (fun vw vo=>by simp [Xc.cells,Xc.atRest,Xc.named])
 have hst:=s1.trans s2
 have hsn2:=m2.seen
 have k0:=hsn.c4
 have f4:=hsn.f 4
 have hwl:=Xc.word_rest S.s
 have hsl:=hok.s
 have hwt:=hok.weight
 have hwn:=Xc.weight_len S.words
 have g4:=hsn2.c4
 have CR:=Lib.hid (fun W=>xright_own ⟨(Xc.word S.s).toArray⟩ W (by show (Xc.word S.s).length ≤ maxLen;unfold maxLen;omega))
 have CP:=Lib.hid (fun W=>Tryz.strings_HasPrefix ⟨c.toArray⟩ ⟨#[58,58]⟩ W)
 have HB:=Lib.hid (show Xc.begin c S = (if Xc.word S.s = [] then .bad 40 else if Nm.right (Xc.word S.s) = false then .bad 41 else .ok (Xc.addW ((if Lib.hasPrefix c Xc.tColons then Xc.lPart else Xc.lDef) ++ Xc.word S.s) (Xc.named S))) from rfl)
 have HST:=Lib.hid hst
 have HM2:=Lib.hid m2
 have hsz : (w.setCell ⟨gm,0,none⟩ (.string ⟨(Xc.rest S.s).toArray⟩)).heap.size = w.heap.size:=by simp [World.setCell]
 obtain ⟨vw0,vo0,cs0,hb0,_⟩:=m2.obj
 clear h hok hsn m1 s1 m2 s2 hst hsn2
 have HS:=Lib.hid (show S.words.length ≤ 2000000000 ∧ (Xc.word S.s).length ≤ 100000 from by omega)
 clear hwl hsl hwt hwn
 obtain ⟨nm,hnm⟩ : ∃ nm,Xc.word S.s = nm:=⟨_,rfl⟩
 rw [hnm] at CN g4 CR HB HS HST HM2
 have e4 : (Xc.named S).name = nm:=hnm
 rw [e4] at g4
 clear hnm e4
 cases nm with
 | nil=>
  rw [if_pos rfl] at HB
  go_enter Tryz.func247,Tryz.ntmps247
  go_wp2_with (go_at_call 120;refine CN.out.mono ?_;rintro e w' ⟨rfl,rfl⟩)
  go_ret
  rw [HB.out]
  exact ⟨rfl,F,HST.out⟩
 | cons c0 t0=>
  rw [if_neg (by simp)] at HB
  cases hr : Nm.right (c0 :: t0)
  ·rw [hr,if_pos rfl] at HB
   have CR:=Lib.hid (fun W=>(CR.out W).mono (R':=fun e w'=>e = .returned (.bool false) ∧ W = w') (fun e w' h=>⟨h.1.trans (congrArg (fun x=>Ending.returned (.bool x)) hr),h.2⟩))
   clear hr
   go_enter Tryz.func247,Tryz.ntmps247
   go_wp2_with (first | (go_at_call 120;refine CN.out.mono ?_;rintro e w' ⟨rfl,rfl⟩) | (go_at_call 59;refine (CR.out _).mono ?_;rintro e w' ⟨rfl,rfl⟩))
   go_ret
   rw [HB.out]
   exact ⟨rfl,F,HST.out⟩
  ·rw [hr,if_neg (by decide)] at HB
   have CR:=Lib.hid (fun W=>(CR.out W).mono (R':=fun e w'=>e = .returned (.bool true) ∧ W = w') (fun e w' h=>⟨h.1.trans (congrArg (fun x=>Ending.returned (.bool x)) hr),h.2⟩))
   clear hr
   have hn1 : ¬ (c0 :: t0 = []):=by simp
   have hn2 : (c0 :: t0 == []) = false:=by simp
   have hn3 : (c0 :: t0).isEmpty = false:=rfl
   generalize c0 :: t0 = nm at *
   obtain ⟨z,hz⟩ : ∃ z,(if Lib.hasPrefix c Xc.tColons = true then Xc.lPart else Xc.lDef) ++ nm = z:=⟨_,rfl⟩
   rw [hz] at HB
   obtain ⟨vw,vo,cs,hb2,ho2,hadd⟩:=HM2.out.addW (w1:=w) (f:=z)
   have e2 : ((w.setCell ⟨gm,0,none⟩ (.string ⟨(Xc.rest S.s).toArray⟩)).setCell ⟨gm,4,none⟩ (.string ⟨nm.toArray⟩)).cell? ⟨gm,2,none⟩ = w.cell? ⟨gm,2,none⟩:=(World.cell?_setCell_other _ _ _ _ (by intro h;cases h)).trans (World.cell?_setCell_other _ _ _ _ (by intro h;cases h))
   have k2:=e2.symm.trans (hb2.cell 2)
   simp only [Xc.cells,List.getElem?_toArray,List.getElem?_cons_succ,List.getElem?_cons_zero] at k2
   obtain ⟨A,cap,rfl⟩:=(Rd.of_own ho2).form
   have hal : Below ((w.setCell ⟨gm,0,none⟩ (.string ⟨(Xc.rest S.s).toArray⟩)).setCell ⟨gm,4,none⟩ (.string ⟨nm.toArray⟩)).heap.size ((w.setCell ⟨gm,0,none⟩ (.string ⟨(Xc.rest S.s).toArray⟩)).setCell ⟨gm,4,none⟩ (.string ⟨nm.toArray⟩)) (((w.setCell ⟨gm,0,none⟩ (.string ⟨(Xc.rest S.s).toArray⟩)).setCell ⟨gm,4,none⟩ (.string ⟨nm.toArray⟩)).alloc (.cells #[.string ⟨z.toArray⟩,.int .i64 0,.slice none 0 0] 145)):=(Below.refl _ _).alloc (Nat.le_refl _) _
   have HOW:=Lib.hid (own_kept ho2 hal)
   have HSR:=Lib.hid (show Src Tryz.prog 3 134 (.slice (some ⟨w.heap.size,0,none⟩) 1 1) 1 [.string ⟨z.toArray⟩,.int .i64 0,.slice none 0 0] (((w.setCell ⟨gm,0,none⟩ (.string ⟨(Xc.rest S.s).toArray⟩)).setCell ⟨gm,4,none⟩ (.string ⟨nm.toArray⟩)).alloc (.cells #[.string ⟨z.toArray⟩,.int .i64 0,.slice none 0 0] 145)) from by
    have:=Rd.src xwrt (Rd.built (Bk.fresh ((w.setCell ⟨gm,0,none⟩ (.string ⟨(Xc.rest S.s).toArray⟩)).setCell ⟨gm,4,none⟩ (.string ⟨nm.toArray⟩)) 145 #[.string ⟨z.toArray⟩,.int .i64 0,.slice none 0 0]) rfl) (by intro u hu;simp at hu;rcases hu with rfl | rfl | rfl <;> rfl)
    rw [show ((w.setCell ⟨gm,0,none⟩ (.string ⟨(Xc.rest S.s).toArray⟩)).setCell ⟨gm,4,none⟩ (.string ⟨nm.toArray⟩)).heap.size = w.heap.size by simp [World.setCell]] at this
    exact this)
   have HL1:=Lib.hid (show ((Xc.named S).words.length + 1) * 48 ≤ 140737488355328 from by have:=HS.out.1;show (S.words.length + 1) * 48 ≤ _;omega)
   have HL2:=Lib.hid (show (Xc.named S).words.length + 1 ≤ maxLen from by have:=HS.out.1;show S.words.length + 1 ≤ _;unfold maxLen;omega)
   have HP:=Lib.hid (fun v' w1 ho hg hv=>hadd _ v' w1 hal ho hg hv)
   have hsum4 : ¬ 9223372036854775807 < 4 + nm.length:=by have:=HS.out.2;omega
   have hsum5 : ¬ 9223372036854775807 < 5 + nm.length:=by have:=HS.out.2;omega
   have e41 : (⟨#[100,101,102,32]⟩ : ByteArray) ++ ⟨nm.toArray⟩ = ⟨(Xc.lDef ++ nm).toArray⟩:=app_eq [100,101,102,32] nm
   have e42 : (⟨#[112,97,114,116,32]⟩ : ByteArray) ++ ⟨nm.toArray⟩ = ⟨(Xc.lPart ++ nm).toArray⟩:=app_eq [112,97,114,116,32] nm
   clear hb2 ho2 hadd e2 hal hb0
   generalize (Xc.named S).words.length = n at *
   cases hp : Lib.hasPrefix c Xc.tColons
   all_goals
    rw [hp] at hz
    have CP:=Lib.hid (fun W=>(CP.out W).mono (R':=fun e w'=>e = .returned (.bool _) ∧ W = w') (fun e w' h=>⟨h.1.trans (congrArg (fun x=>Ending.returned (.bool x)) hp),h.2.symm⟩))
    clear hp
    first
     | rw [if_neg (by decide)] at hz
     | rw [if_pos rfl] at hz
    rw [hz] at *
    clear hz
    go_enter Tryz.func247,Tryz.ntmps247
    go_wp2_with (first | (go_at_call 120;refine CN.out.mono ?_;rintro e w' ⟨rfl,rfl⟩) | (go_at_call 59;refine (CR.out _).mono ?_;rintro e w' ⟨rfl,rfl⟩) | (go_at_call 114;refine (CP.out _).mono ?_;rintro e w' ⟨rfl,rfl⟩) | (at_builtin;refine wpList_appendRB rfl _ _ _ _ rfl xwrt (by decide) 0 _ rfl n cs HOW.out _ rfl 1 [.string ⟨z.toArray⟩,.int .i64 0,.slice none 0 0] HSR.out HL1.out HL2.out (Nat.zero_le _) ?_;intro v' w9 ho9 hb9 hg9 hv9;obtain ⟨A9,c9,rfl⟩:=(Rd.of_own ho9).form;obtain ⟨d2,f2,hm⟩:=HP.out _ _ ho9 hg9 hv9;clear ho9 hb9 hg9 hv9))
    go_ret
    rw [HB.out]
    exact ⟨rfl,hm.out.after HST.out⟩
theorem Xc.begin_bad {c : List UInt8} {S : Xc.S} {n : Nat} (h : Xc.begin c S = .bad n) : n = 40 ∨ n = 41:=by
 unfold Xc.begin at h
 split at h
 ·cases h;exact .inl rfl
 split at h
 ·cases h;exact .inr rfl
 ·cases h
theorem Xc.begin_ok {c : List UInt8} {S S1 : Xc.S} (h : Xc.begin c S = .ok S1) {k : Nat} (hok : Xc.Ok k S) : Xc.Ok (k + 1) S1 ∧ S1.words ≠ [] ∧ S1.name.length ≤ 31:=by
 unfold Xc.begin at h
 split at h
 ·cases h
 split at h
 ·cases h
 ·rename_i hr
  injection h with h
  subst h
  have hl:=(Xc.right_len hr).1
  have hs:=Xc.word_rest S.s
  have hss:=hok.s
  have hn : Xc.Ok k (Xc.named S):=⟨hok.weight,hok.opens,hok.made,by show (Xc.word S.s).length ≤ _;omega,hok.number,hok.labs,by show (Xc.rest S.s).length ≤ _;omega⟩
  refine ⟨hn.addW _ ?_,(fun e=>by cases (List.append_eq_nil_iff.1 e).2),hl⟩
  rw [List.length_append]
  split
  ·simp only [Xc.lPart,List.length_cons,List.length_nil];omega
  ·simp only [Xc.lDef,List.length_cons,List.length_nil];omega
theorem Xc.begin_stuck (c : List UInt8) (S : Xc.S) : Xc.begin c S ≠ .stuck:=by
 unfold Xc.begin
 split
 ·intro h;cases h
 split
 ·intro h;cases h
 ·intro h;cases h
set_option maxRecDepth 100000 in
set_option maxHeartbeats 2000000 in
theorem xmake_Colon {F : Nat → Prop} {w : World} {gm : Nat} {tag : List UInt8} {S : Xc.S} (h : Xc.Mk F w gm tag S) (hok : Xc.Ok 4 S) (c : List UInt8) (number : List UInt8) (hnl : number.length ≤ 100000) :
  Calls Tryz.prog 189 #[.pointer (some ⟨gm,0,none⟩),.string ⟨c.toArray⟩,.string ⟨#[58]⟩,.string ⟨number.toArray⟩] w (Xc.RPost F w gm tag (Xc.make c Xc.tColon number S)):=by
 have CB:=Lib.hid (xbegin_any h (hok.mono (by omega)) c)
 have HOK:=Lib.hid hok
 have HBO:=Lib.hid (fun S1 (e : Xc.begin c S = .ok S1)=>Xc.begin_ok e hok)
 clear h hok
 cases number with
 | nil=>
  cases hB : Xc.begin c S with
  | stuck=>exact absurd hB (Xc.begin_stuck c S)
  | bad n=>
   have HP:=Lib.hid (show Xc.make c Xc.tColon [] S = .bad n from by unfold Xc.make;rw [if_neg (show ¬ (decide (Xc.tColon = Xc.tCon) != !([] : List UInt8).isEmpty) = true from fun h=>Bool.false_ne_true h),hB])
   rw [hB] at CB
   have hne : ((n : Int) != 0) = true:=by rcases Xc.begin_bad hB with rfl | rfl <;> decide
   clear hB HBO
   go_enter Tryz.func189,Tryz.ntmps189
   go_wp2_with (go_at_call 247;refine CB.out.mono ?_;rintro e w1 ⟨rfl,F1,st1⟩)
   go_ret
   rw [HP.out]
   exact ⟨rfl,F1,st1⟩
  | ok S1=>
   have HP:=Lib.hid (show Xc.make c Xc.tColon [] S = .ok (Xc.made_ Xc.tColon [] S1) from by unfold Xc.make;rw [if_neg (show ¬ (decide (Xc.tColon = Xc.tCon) != !([] : List UInt8).isEmpty) = true from fun h=>Bool.false_ne_true h),hB])
   rw [hB] at CB
   obtain ⟨hok1,hne1,hnm1⟩:=HBO.out S1 hB
   have HOK1:=Lib.hid hok1
   have HNE1:=Lib.hid hne1
   have HNM1:=Lib.hid hnm1
   clear hB HBO hok1 hne1 hnm1
   go_enter Tryz.func189,Tryz.ntmps189
   go_wp2_with (go_at_call 247;refine CB.out.mono ?_;rintro e w1 ⟨rfl,F1,hm1,st1⟩;have f3:=hm1.seen.f 3;have d3:=hm1.seen.c3;obtain ⟨hm2,st2⟩:=hm1.setF 3 (.bool true) (S':=Xc.inIt true S1) rfl rfl (fun vw vo=>by simp [Xc.cells,Xc.inIt]);have HM2:=Lib.hid hm2;have HST:=Lib.hid (st1.trans st2);clear hm1 st1 hm2 st2)
   have hbe4 : Below (w1.setCell ⟨gm,3,none⟩ (.bool true)).heap.size (w1.setCell ⟨gm,3,none⟩ (.bool true)) ((w1.setCell ⟨gm,3,none⟩ (.bool true)).alloc (.cells #[.string ⟨#[97,100,100,105,32,115,112,32,115,112,32,45,52]⟩,.string ⟨#[115,119,32,114,97,32,48,32,115,112]⟩] 9)):=(Below.refl _ _).alloc (Nat.le_refl _) _
   have C4:=Lib.hid (show Calls Tryz.prog 65 #[.pointer (some ⟨gm,0,none⟩),.slice (some ⟨w1.heap.size,0,none⟩) 2 2] ((w1.setCell ⟨gm,3,none⟩ (.bool true)).alloc (.cells #[.string ⟨#[97,100,100,105,32,115,112,32,115,112,32,45,52]⟩,.string ⟨#[115,119,32,114,97,32,48,32,115,112]⟩] 9)) fun e w'=>e = .returned (.tuple #[]) ∧ Xc.To F1 ((w1.setCell ⟨gm,3,none⟩ (.bool true)).alloc (.cells #[.string ⟨#[97,100,100,105,32,115,112,32,115,112,32,45,52]⟩,.string ⟨#[115,119,32,114,97,32,48,32,115,112]⟩] 9)) gm tag (Xc.put [Xc.lDown,Xc.lSave] (Xc.inIt true S1)) w' from by
    have hz : (w1.setCell ⟨gm,3,none⟩ (.bool true)).heap.size = w1.heap.size:=by simp [World.setCell]
    rw [← hz]
    exact xput_any (HM2.out.kept hbe4) HNE1.out ((HOK1.out.inIt true).mono (by omega)) (.slice (some ⟨(w1.setCell ⟨gm,3,none⟩ (.bool true)).heap.size,0,none⟩) 2 2) [Xc.lDown,Xc.lSave] (rd_new [Xc.lDown,Xc.lSave] (Bk.fresh (w1.setCell ⟨gm,3,none⟩ (.bool true)) _ _) (by simp)) (by simp))
   have HBE4:=Lib.hid hbe4
   clear hbe4
   go_wp2_with (go_at_call 65;refine C4.out.mono ?_)
   rintro e w4 ⟨rfl,F4,hm4,st4⟩
   go_wp2_with fail
   go_ret
   rw [HP.out]
   exact ⟨rfl,F4,hm4,HST.out.trans ((Step.of_below HBE4.out).trans st4)⟩
 | cons n0 nt=>
  have HP:=Lib.hid (show Xc.make c Xc.tColon (n0 :: nt) S = .bad 40 from by unfold Xc.make;rw [if_pos (show (decide (Xc.tColon = Xc.tCon) != !((n0 :: nt) : List UInt8).isEmpty) = true from rfl)])
  clear CB HBO
  go_enter Tryz.func189,Tryz.ntmps189
  go_wp2_with fail
  go_ret
  rw [HP.out]
  exact ⟨rfl,F,Step.refl F w⟩
set_option maxRecDepth 100000 in
set_option maxHeartbeats 2000000 in
theorem xmake_Var {F : Nat → Prop} {w : World} {gm : Nat} {tag : List UInt8} {S : Xc.S} (h : Xc.Mk F w gm tag S) (hok : Xc.Ok 4 S) (c : List UInt8) (number : List UInt8) (hnl : number.length ≤ 100000) :
  Calls Tryz.prog 189 #[.pointer (some ⟨gm,0,none⟩),.string ⟨c.toArray⟩,.string ⟨#[86,65,82,73,65,66,76,69]⟩,.string ⟨number.toArray⟩] w (Xc.RPost F w gm tag (Xc.make c Xc.tVar number S)):=by
 have CB:=Lib.hid (xbegin_any h (hok.mono (by omega)) c)
 have HOK:=Lib.hid hok
 have HBO:=Lib.hid (fun S1 (e : Xc.begin c S = .ok S1)=>Xc.begin_ok e hok)
 clear h hok
 cases number with
 | nil=>
  cases hB : Xc.begin c S with
  | stuck=>exact absurd hB (Xc.begin_stuck c S)
  | bad n=>
   have HP:=Lib.hid (show Xc.make c Xc.tVar [] S = .bad n from by unfold Xc.make;rw [if_neg (show ¬ (decide (Xc.tVar = Xc.tCon) != !([] : List UInt8).isEmpty) = true from fun h=>Bool.false_ne_true h),hB])
   rw [hB] at CB
   have hne : ((n : Int) != 0) = true:=by rcases Xc.begin_bad hB with rfl | rfl <;> decide
   clear hB HBO
   go_enter Tryz.func189,Tryz.ntmps189
   go_wp2_with (go_at_call 247;refine CB.out.mono ?_;rintro e w1 ⟨rfl,F1,st1⟩)
   go_ret
   rw [HP.out]
   exact ⟨rfl,F1,st1⟩
  | ok S1=>
   have HP:=Lib.hid (show Xc.make c Xc.tVar [] S = .ok (Xc.made_ Xc.tVar [] S1) from by unfold Xc.make;rw [if_neg (show ¬ (decide (Xc.tVar = Xc.tCon) != !([] : List UInt8).isEmpty) = true from fun h=>Bool.false_ne_true h),hB])
   rw [hB] at CB
   obtain ⟨hok1,hne1,hnm1⟩:=HBO.out S1 hB
   have HOK1:=Lib.hid hok1
   have HNE1:=Lib.hid hne1
   have HNM1:=Lib.hid hnm1
   clear hB HBO hok1 hne1 hnm1
   obtain ⟨z1,hz1⟩ : ∃ z,Xc.lLaA ++ S1.name = z:=⟨_,rfl⟩
   have ez1 : (⟨#[108,97,32,116,48,32,38]⟩ : ByteArray) ++ ⟨S1.name.toArray⟩ = ⟨z1.toArray⟩:=by rw [← hz1];exact app_eq Xc.lLaA S1.name
   obtain ⟨z2,hz2⟩ : ∃ z,38 :: S1.name = z:=⟨_,rfl⟩
   have ez2 : (⟨#[38]⟩ : ByteArray) ++ ⟨S1.name.toArray⟩ = ⟨z2.toArray⟩:=by rw [← hz2];exact app_eq [38] S1.name
   obtain ⟨z3,hz3⟩ : ∃ z,z2 ++ Xc.lWord = z:=⟨_,rfl⟩
   have ez3 : (⟨z2.toArray⟩ : ByteArray) ++ ⟨#[58,32,119,111,114,100,32,48]⟩ = ⟨z3.toArray⟩:=by rw [← hz3];exact app_eq z2 Xc.lWord
   have hsum1 : ¬ 9223372036854775807 < 7 + S1.name.length:=by have:=HNM1.out;omega
   have hsum2 : ¬ 9223372036854775807 < 1 + S1.name.length:=by have:=HNM1.out;omega
   have hz2l : z2.length ≤ 32:=by rw [← hz2,List.length_cons];have:=HNM1.out;omega
   have hsum3 : ¬ 9223372036854775807 < z2.length + 8:=by omega
   have HZ1:=Lib.hid (show z1.length ≤ 500000 from by rw [← hz1,List.length_append];have:=HNM1.out;simp only [Xc.lLaA,List.length_cons,List.length_nil];omega)
   have HPM:=Lib.hid (show Xc.made_ Xc.tVar [] S1 = Xc.put [Xc.lRet,z3] (Xc.push z1 S1) from by rw [← hz3,← hz2,← hz1];rfl)
   clear hz1 hz2 hz3
   go_enter Tryz.func189,Tryz.ntmps189
   go_wp2_with (go_at_call 247;refine CB.out.mono ?_;rintro e w1 ⟨rfl,F1,hm1,st1⟩;have d4:=hm1.seen.c4)
   have C2:=Lib.hid (xpush_any hm1 HNE1.out (HOK1.out.mono (by omega)) z1 HZ1.out)
   go_wp2_with (go_at_call 188;refine C2.out.mono ?_;rintro e w2 ⟨rfl,F2,hm2,st2⟩;have d4' : w2.cell? ⟨gm,4,none⟩ = some (.string ⟨S1.name.toArray⟩):=hm2.seen.c4)
   have hbe4 : Below w2.heap.size w2 (w2.alloc (.cells #[.string ⟨#[114,101,116]⟩,.string ⟨z3.toArray⟩] 9)):=(Below.refl _ _).alloc (Nat.le_refl _) _
   have C4:=Lib.hid (show Calls Tryz.prog 65 #[.pointer (some ⟨gm,0,none⟩),.slice (some ⟨w2.heap.size,0,none⟩) 2 2] (w2.alloc (.cells #[.string ⟨#[114,101,116]⟩,.string ⟨z3.toArray⟩] 9)) fun e w'=>e = .returned (.tuple #[]) ∧ Xc.To F2 (w2.alloc (.cells #[.string ⟨#[114,101,116]⟩,.string ⟨z3.toArray⟩] 9)) gm tag (Xc.put [Xc.lRet,z3] (Xc.push z1 S1)) w' from
    xput_any (hm2.kept hbe4) (Xc.upd_ne _ _ HNE1.out) ((HOK1.out.put [z1,Xc.lAddi,Xc.lSw] (by have:=HZ1.out;simp only [Xc.lsum_cons,Xc.lsum_nil,Xc.lAddi,Xc.lSw,List.length_cons,List.length_nil];omega)).mono (by omega)) (.slice (some ⟨w2.heap.size,0,none⟩) 2 2) [Xc.lRet,z3] (rd_new [Xc.lRet,z3] (Bk.fresh w2 _ _) (by simp)) (by simp))
   have HBE4:=Lib.hid hbe4
   clear hbe4
   go_wp2_with (go_at_call 65;refine C4.out.mono ?_)
   rintro e w4 ⟨rfl,F4,hm4,st4⟩
   go_wp2_with fail
   go_ret
   rw [HP.out,HPM.out]
   exact ⟨rfl,F4,hm4,(st1.trans st2).trans ((Step.of_below HBE4.out).trans st4)⟩
 | cons n0 nt=>
  have HP:=Lib.hid (show Xc.make c Xc.tVar (n0 :: nt) S = .bad 40 from by unfold Xc.make;rw [if_pos (show (decide (Xc.tVar = Xc.tCon) != !((n0 :: nt) : List UInt8).isEmpty) = true from rfl)])
  clear CB HBO
  go_enter Tryz.func189,Tryz.ntmps189
  go_wp2_with fail
  go_ret
  rw [HP.out]
  exact ⟨rfl,F,Step.refl F w⟩
set_option maxRecDepth 100000 in
set_option maxHeartbeats 2000000 in
theorem xmake_Con {F : Nat → Prop} {w : World} {gm : Nat} {tag : List UInt8} {S : Xc.S} (h : Xc.Mk F w gm tag S) (hok : Xc.Ok 4 S) (c : List UInt8) (number : List UInt8) (hnl : number.length ≤ 100000) :
  Calls Tryz.prog 189 #[.pointer (some ⟨gm,0,none⟩),.string ⟨c.toArray⟩,.string ⟨#[67,79,78,83,84,65,78,84]⟩,.string ⟨number.toArray⟩] w (Xc.RPost F w gm tag (Xc.make c Xc.tCon number S)):=by
 have CB:=Lib.hid (xbegin_any h (hok.mono (by omega)) c)
 have HOK:=Lib.hid hok
 have HBO:=Lib.hid (fun S1 (e : Xc.begin c S = .ok S1)=>Xc.begin_ok e hok)
 clear h hok
 cases number with
 | nil=>
  have HP:=Lib.hid (show Xc.make c Xc.tCon [] S = .bad 40 from by unfold Xc.make;rw [if_pos (show (decide (Xc.tCon = Xc.tCon) != !([] : List UInt8).isEmpty) = true from rfl)])
  clear CB HBO
  go_enter Tryz.func189,Tryz.ntmps189
  go_wp2_with fail
  go_ret
  rw [HP.out]
  exact ⟨rfl,F,Step.refl F w⟩
 | cons n0 nt=>
  cases hB : Xc.begin c S with
  | stuck=>exact absurd hB (Xc.begin_stuck c S)
  | bad n=>
   have HP:=Lib.hid (show Xc.make c Xc.tCon (n0 :: nt) S = .bad n from by unfold Xc.make;rw [if_neg (show ¬ (decide (Xc.tCon = Xc.tCon) != !((n0 :: nt) : List UInt8).isEmpty) = true from fun h=>Bool.false_ne_true h),hB])
   rw [hB] at CB
   have hne : ((n : Int) != 0) = true:=by rcases Xc.begin_bad hB with rfl | rfl <;> decide
   clear hB HBO
   go_enter Tryz.func189,Tryz.ntmps189
   go_wp2_with (go_at_call 247;refine CB.out.mono ?_;rintro e w1 ⟨rfl,F1,st1⟩)
   go_ret
   rw [HP.out]
   exact ⟨rfl,F1,st1⟩
  | ok S1=>
   have HP:=Lib.hid (show Xc.make c Xc.tCon (n0 :: nt) S = .ok (Xc.made_ Xc.tCon (n0 :: nt) S1) from by unfold Xc.make;rw [if_neg (show ¬ (decide (Xc.tCon = Xc.tCon) != !((n0 :: nt) : List UInt8).isEmpty) = true from fun h=>Bool.false_ne_true h),hB])
   rw [hB] at CB
   obtain ⟨hok1,hne1,hnm1⟩:=HBO.out S1 hB
   have HOK1:=Lib.hid hok1
   have HNE1:=Lib.hid hne1
   have HNM1:=Lib.hid hnm1
   clear hB HBO hok1 hne1 hnm1
   obtain ⟨z1,hz1⟩ : ∃ z,Xc.lLi ++ (n0 :: nt) = z:=⟨_,rfl⟩
   have ez1 : (⟨#[108,105,32,116,48,32]⟩ : ByteArray) ++ ⟨((n0 :: nt)).toArray⟩ = ⟨z1.toArray⟩:=by rw [← hz1];exact app_eq Xc.lLi ((n0 :: nt))
   have hsum1 : ¬ 9223372036854775807 < 6 + ((n0 :: nt)).length:=by omega
   have HZ1:=Lib.hid (show z1.length ≤ 500000 from by rw [← hz1,List.length_append];simp only [Xc.lLi,List.length_cons,List.length_nil];simp only [List.length_cons] at hnl;omega)
   have HPM:=Lib.hid (show Xc.made_ Xc.tCon ((n0 :: nt)) S1 = Xc.put [Xc.lRet] (Xc.push z1 S1) from by rw [← hz1];rfl)
   clear hz1
   go_enter Tryz.func189,Tryz.ntmps189
   go_wp2_with (go_at_call 247;refine CB.out.mono ?_;rintro e w1 ⟨rfl,F1,hm1,st1⟩)
   have C2:=Lib.hid (xpush_any hm1 HNE1.out (HOK1.out.mono (by omega)) z1 HZ1.out)
   go_wp2_with (go_at_call 188;refine C2.out.mono ?_;rintro e w2 ⟨rfl,F2,hm2,st2⟩)
   have hbe4 : Below w2.heap.size w2 (w2.alloc (.cells #[.string ⟨#[114,101,116]⟩] 9)):=(Below.refl _ _).alloc (Nat.le_refl _) _
   have C4:=Lib.hid (show Calls Tryz.prog 65 #[.pointer (some ⟨gm,0,none⟩),.slice (some ⟨w2.heap.size,0,none⟩) 1 1] (w2.alloc (.cells #[.string ⟨#[114,101,116]⟩] 9)) fun e w'=>e = .returned (.tuple #[]) ∧ Xc.To F2 (w2.alloc (.cells #[.string ⟨#[114,101,116]⟩] 9)) gm tag (Xc.put [Xc.lRet] (Xc.push z1 S1)) w' from
    xput_any (hm2.kept hbe4) (Xc.upd_ne _ _ HNE1.out) ((HOK1.out.put [z1,Xc.lAddi,Xc.lSw] (by have:=HZ1.out;simp only [Xc.lsum_cons,Xc.lsum_nil,Xc.lAddi,Xc.lSw,List.length_cons,List.length_nil];omega)).mono (by omega)) (.slice (some ⟨w2.heap.size,0,none⟩) 1 1) [Xc.lRet] (rd_new [Xc.lRet] (Bk.fresh w2 _ _) (by simp)) (by simp))
   have HBE4:=Lib.hid hbe4
   clear hbe4
   go_wp2_with (go_at_call 65;refine C4.out.mono ?_)
   rintro e w4 ⟨rfl,F4,hm4,st4⟩
   go_wp2_with fail
   go_ret
   rw [HP.out,HPM.out]
   exact ⟨rfl,F4,hm4,(st1.trans st2).trans ((Step.of_below HBE4.out).trans st4)⟩
def Xc.Fl (S : Xc.S) : Prop:=∀ x ∈ S.words,x.flags < 8
theorem Xc.or8 {f n : Nat} (hf : f < 8) (hn : n < 8) : bits .or .i64 (f : Int) (n : Int) = ((f ||| n : Nat) : Int) ∧ f ||| n < 8:=by
 have h : ∀ f : Fin 8,∀ n : Fin 8,bits .or .i64 (f.val : Int) (n.val : Int) = ((f.val ||| n.val : Nat) : Int) ∧ f.val ||| n.val < 8:=by decide
 exact h ⟨f,hf⟩ ⟨n,hn⟩
theorem Xc.last_snoc (init : List Xc.W) (x : Xc.W) : (init ++ [x]).getLast? = some x:=by simp
set_option maxRecDepth 100000 in
set_option maxHeartbeats 2000000 in
theorem xflag_any {F : Nat → Prop} {w : World} {gm : Nat} {tag : List UInt8} {S : Xc.S} (h : Xc.Mk F w gm tag S) (hok : Xc.Ok 10 S) (hfl : Xc.Fl S) (n : Nat) (hn : n < 8) :
  Calls Tryz.prog 190 #[.pointer (some ⟨gm,0,none⟩),.int .i64 (n : Int)] w (Xc.RPost F w gm tag (Xc.flag n S)):=by
 by_cases hne : S.words = []
 ·have HP:=Lib.hid (show Xc.flag n S = .bad 40 from by unfold Xc.flag;rw [hne];rfl)
  obtain ⟨vw,vo,cs,h1,h2,_⟩:=h.obj
  rw [hne] at h2
  obtain ⟨A,c,rfl⟩:=(Rd.of_own h2).form
  have c2:=h1.cell 2
  simp only [Xc.cells,List.getElem?_toArray,List.getElem?_cons_succ,List.getElem?_cons_zero,List.length_nil] at c2
  clear h hok hfl hn hne h1 h2
  go_enter Tryz.func190,Tryz.ntmps190
  go_wp2_with fail
  go_ret
  rw [HP.out]
  exact ⟨rfl,F,Step.refl F w⟩
 obtain ⟨init,x,hS⟩:=Xc.words_last hne
 obtain ⟨gw,cap,vo,vl,h1,hnc,hcm,hgw,c0,c1,c2',f1,f2,hvl,hflag,hput⟩:=h.last hS
 have hwt:=hok.weight
 have hil : init.length ≤ 2000000000:=by
  rw [hS,Xc.weight_app] at hwt
  have:=Xc.weight_len init
  omega
 have hx8:=hfl x (by rw [hS];simp)
 have c2:=h1.cell 2
 simp only [Xc.cells,List.getElem?_toArray,List.getElem?_cons_succ,List.getElem?_cons_zero] at c2
 have hwA : IntKind.i64.wrap ((init.length : Int) + 1 - 1) = (init.length : Int):=by rw [IntKind.wrap_i64];omega
 have hwB : IntKind.i64.wrap (init.length : Int) = (init.length : Int):=by rw [IntKind.wrap_i64];omega
 have hr0 : (0 : Int) ≤ (init.length : Int):=by omega
 have hlt0 : ¬ (init.length : Int) < 0:=by omega
 have hr1 : (init.length : Int) < ((init.length + 1 : Nat) : Int):=by omega
 by_cases hf : x.first = []
 ·have HP:=Lib.hid (show Xc.flag n S = .bad 40 from by unfold Xc.flag;rw [hS,Xc.last_snoc];dsimp only;rw [if_pos hf])
  rw [hf] at c0
  clear h hok hfl hn hne h1 hS hput hflag hvl hwt hil hf hx8 c2'
  go_enter Tryz.func190,Tryz.ntmps190
  go_wp2_with fail
  go_ret
  rw [HP.out]
  exact ⟨rfl,F,Step.refl F w⟩
 ·have HP:=Lib.hid (show Xc.flag n S = .ok ⟨S.s,init ++ [⟨x.first,x.flags ||| n,x.lines⟩],S.within,S.name,S.opens,S.made,S.number⟩ from by unfold Xc.flag;rw [hS,Xc.last_snoc];dsimp only;rw [if_neg hf,Xc.upd_snoc];rfl)
  obtain ⟨ho1,ho2⟩:=Xc.or8 hx8 hn
  have HT:=Lib.hid (hflag (x.flags ||| n))
  have e1 : (x.first == []) = false:=by simpa using hf
  have e2 : x.first.isEmpty = false:=by simpa using hf
  clear h hok hfl hn hne h1 hS hput hflag hvl hwt hil hf hx8 c2'
  go_enter Tryz.func190,Tryz.ntmps190
  go_wp2_with fail
  go_ret
  rw [HP.out]
  exact ⟨rfl,HT.out⟩
theorem Xc.makes_kind {c kind : List UInt8} (h : Xc.makes c = some kind) : kind = Xc.tColon ∨ kind = Xc.tVar ∨ kind = Xc.tCon:=by
 unfold Xc.makes at h
 repeat' split at h
 all_goals first
  | (injection h with h;subst h;exact .inl rfl)
  | (injection h with h;subst h;exact .inr (.inl rfl))
  | (injection h with h;subst h;exact .inr (.inr rfl))
  | cases h
set_option maxRecDepth 100000 in
set_option maxHeartbeats 4000000 in
theorem xtop_any {F : Nat → Prop} {w : World} {gm : Nat} {tag : List UInt8} {S : Xc.S} (h : Xc.Mk F w gm tag S) (hok : Xc.Ok 0 S) (hfl : Xc.Fl S) (c : List UInt8) (hc : c.length ≤ 100000) :
  Calls Tryz.prog 123 #[.pointer (some ⟨gm,0,none⟩),.string ⟨c.toArray⟩] w (Xc.RPost F w gm tag (Xc.top c S)):=by
 have hsn:=h.seen
 have c7:=hsn.c7
 have f7:=hsn.f 7
 obtain ⟨m1,s1⟩:=h.setF 7 (.string ⟨#[]⟩) (S':=Xc.num [] S) rfl rfl (fun vw vo=>by simp [Xc.cells,Xc.num])
 have hok1:=hok.num [] (by simp)
 have hfl1 : Xc.Fl (Xc.num [] S):=hfl
 have CM:=Lib.hid (fun W=>xmakes_any c W)
 have HST:=Lib.hid s1
 have HNL:=Lib.hid hok.number
 have hz : (w.setCell ⟨gm,7,none⟩ (.string ⟨#[]⟩)).heap.size = w.heap.size:=by simp [World.setCell]
 have HZ:=Lib.hid hz
 cases hm : Xc.makes c with
 | some kind=>
  have HP:=Lib.hid (show Xc.top c S = Xc.make c kind S.number (Xc.num [] S) from by unfold Xc.top;rw [hm])
  rw [hm] at CM
  have hk:=Xc.makes_kind hm
  clear hm h hok hfl hsn hz
  rcases hk with rfl | rfl | rfl
  ·have CK:=Lib.hid (xmake_Colon m1 (hok1.mono (by omega)) c S.number HNL.out)
   clear m1 s1 hok1 hfl1
   generalize S.number = nb at *
   generalize Xc.make c Xc.tColon nb (Xc.num [] S) = r at *
   cases r with
   | stuck=>
    go_enter Tryz.func123,Tryz.ntmps123
    go_wp2_with (first | (go_at_call 184;refine (CM.out _).mono ?_;rintro e w' ⟨rfl,rfl⟩) | (go_at_call 189;refine CK.out.mono ?_;rintro e w2 hpost;exact absurd hpost id))
   | bad n=>
    go_enter Tryz.func123,Tryz.ntmps123
    go_wp2_with (first | (go_at_call 184;refine (CM.out _).mono ?_;rintro e w' ⟨rfl,rfl⟩) | (go_at_call 189;refine CK.out.mono ?_;rintro e w2 ⟨rfl,F2,st2⟩))
    go_ret
    rw [HP.out]
    exact ⟨rfl,F2,HST.out.trans st2⟩
   | ok S1=>
    go_enter Tryz.func123,Tryz.ntmps123
    go_wp2_with (first | (go_at_call 184;refine (CM.out _).mono ?_;rintro e w' ⟨rfl,rfl⟩) | (go_at_call 189;refine CK.out.mono ?_;rintro e w2 ⟨rfl,F2,hm2,st2⟩))
    go_ret
    rw [HP.out]
    exact ⟨rfl,F2,hm2,HST.out.trans st2⟩
  ·have CK:=Lib.hid (xmake_Var m1 (hok1.mono (by omega)) c S.number HNL.out)
   clear m1 s1 hok1 hfl1
   generalize S.number = nb at *
   generalize Xc.make c Xc.tVar nb (Xc.num [] S) = r at *
   cases r with
   | stuck=>
    go_enter Tryz.func123,Tryz.ntmps123
    go_wp2_with (first | (go_at_call 184;refine (CM.out _).mono ?_;rintro e w' ⟨rfl,rfl⟩) | (go_at_call 189;refine CK.out.mono ?_;rintro e w2 hpost;exact absurd hpost id))
   | bad n=>
    go_enter Tryz.func123,Tryz.ntmps123
    go_wp2_with (first | (go_at_call 184;refine (CM.out _).mono ?_;rintro e w' ⟨rfl,rfl⟩) | (go_at_call 189;refine CK.out.mono ?_;rintro e w2 ⟨rfl,F2,st2⟩))
    go_ret
    rw [HP.out]
    exact ⟨rfl,F2,HST.out.trans st2⟩
   | ok S1=>
    go_enter Tryz.func123,Tryz.ntmps123
    go_wp2_with (first | (go_at_call 184;refine (CM.out _).mono ?_;rintro e w' ⟨rfl,rfl⟩) | (go_at_call 189;refine CK.out.mono ?_;rintro e w2 ⟨rfl,F2,hm2,st2⟩))
    go_ret
    rw [HP.out]
    exact ⟨rfl,F2,hm2,HST.out.trans st2⟩
  ·have CK:=Lib.hid (xmake_Con m1 (hok1.mono (by omega)) c S.number HNL.out)
   clear m1 s1 hok1 hfl1
   generalize S.number = nb at *
   generalize Xc.make c Xc.tCon nb (Xc.num [] S) = r at *
   cases r with
   | stuck=>
    go_enter Tryz.func123,Tryz.ntmps123
    go_wp2_with (first | (go_at_call 184;refine (CM.out _).mono ?_;rintro e w' ⟨rfl,rfl⟩) | (go_at_call 189;refine CK.out.mono ?_;rintro e w2 hpost;exact absurd hpost id))
   | bad n=>
    go_enter Tryz.func123,Tryz.ntmps123
    go_wp2_with (first | (go_at_call 184;refine (CM.out _).mono ?_;rintro e w' ⟨rfl,rfl⟩) | (go_at_call 189;refine CK.out.mono ?_;rintro e w2 ⟨rfl,F2,st2⟩))
    go_ret
    rw [HP.out]
    exact ⟨rfl,F2,HST.out.trans st2⟩
   | ok S1=>
    go_enter Tryz.func123,Tryz.ntmps123
    go_wp2_with (first | (go_at_call 184;refine (CM.out _).mono ?_;rintro e w' ⟨rfl,rfl⟩) | (go_at_call 189;refine CK.out.mono ?_;rintro e w2 ⟨rfl,F2,hm2,st2⟩))
    go_ret
    rw [HP.out]
    exact ⟨rfl,F2,hm2,HST.out.trans st2⟩
 | none=>
  rw [hm] at CM
  by_cases hnum : S.number = []
  rotate_left
  ·have HP:=Lib.hid (show Xc.top c S = .bad 40 from by unfold Xc.top;rw [hm];dsimp only;rw [if_pos hnum])
   have e1 : (S.number != []) = true:=by simpa using hnum
   have e2 : ¬ S.number = []:=hnum
   have e3 : (!S.number == []) = true:=by simpa using hnum
   have e4 : S.number.isEmpty = false:=by simpa using hnum
   clear hm h hok hfl hsn hz m1 s1 hok1 hfl1
   generalize S.number = nb at *
   go_enter Tryz.func123,Tryz.ntmps123
   go_wp2_with (go_at_call 184;refine (CM.out _).mono ?_;rintro e w' ⟨rfl,rfl⟩)
   go_ret
   rw [HP.out]
   exact ⟨rfl,F,HST.out⟩
  have HTOP:=Lib.hid (show Xc.top c S = (if c = Xc.tImm then Xc.flag 1 (Xc.num [] S) else if c = Xc.tInl then Xc.flag 2 (Xc.num [] S) else if c = Xc.tNot then Xc.flag 4 (Xc.num [] S) else if (L6.number c).2 = false then .bad 40 else .ok (Xc.num c S)) from by unfold Xc.top;rw [hm];dsimp only;rw [if_neg (fun h=>h hnum)])
  rw [hnum] at c7
  have C1:=Lib.hid (show Calls Tryz.prog 190 #[.pointer (some ⟨gm,0,none⟩),.int .i64 1] (w.setCell ⟨gm,7,none⟩ (.string ⟨#[]⟩)) (Xc.RPost F _ gm tag (Xc.flag 1 (Xc.num [] S))) from xflag_any m1 (hok1.mono (by omega)) hfl1 1 (by decide))
  have C2:=Lib.hid (show Calls Tryz.prog 190 #[.pointer (some ⟨gm,0,none⟩),.int .i64 2] (w.setCell ⟨gm,7,none⟩ (.string ⟨#[]⟩)) (Xc.RPost F _ gm tag (Xc.flag 2 (Xc.num [] S))) from xflag_any m1 (hok1.mono (by omega)) hfl1 2 (by decide))
  have C4:=Lib.hid (show Calls Tryz.prog 190 #[.pointer (some ⟨gm,0,none⟩),.int .i64 4] (w.setCell ⟨gm,7,none⟩ (.string ⟨#[]⟩)) (Xc.RPost F _ gm tag (Xc.flag 4 (Xc.num [] S))) from xflag_any m1 (hok1.mono (by omega)) hfl1 4 (by decide))
  obtain ⟨m2,s2⟩:=m1.setF 7 (.string ⟨c.toArray⟩) (S':=Xc.num c S) rfl rfl (fun vw vo=>by simp [Xc.cells,Xc.num])
  have HM2:=Lib.hid m2
  have HST2:=Lib.hid (s1.trans s2)
  have CN:=Lib.hid (fun W=>lnumber_any c W (by unfold maxLen;omega))
  clear hm h hok hfl hsn hz m1 s1 hok1 hfl1 m2 s2
  by_cases h1 : c = [73,77,77,69,68,73,65,84,69]
  ·subst h1
   have HP:=Lib.hid (show Xc.top [73,77,77,69,68,73,65,84,69] S = Xc.flag 1 (Xc.num [] S) from by rw [HTOP.out];exact if_pos rfl)
   clear HTOP
   generalize Xc.flag 1 (Xc.num [] S) = r at *
   cases r with
   | stuck=>
    go_enter Tryz.func123,Tryz.ntmps123
    go_wp2_with (first | (go_at_call 184;refine (CM.out _).mono ?_;rintro e w' ⟨rfl,rfl⟩) | (go_at_call 190;refine C1.out.mono ?_;rintro e w2 hpost;exact absurd hpost id))
   | bad n=>
    go_enter Tryz.func123,Tryz.ntmps123
    go_wp2_with (first | (go_at_call 184;refine (CM.out _).mono ?_;rintro e w' ⟨rfl,rfl⟩) | (go_at_call 190;refine C1.out.mono ?_;rintro e w2 ⟨rfl,F2,st2⟩))
    go_ret
    rw [HP.out]
    exact ⟨rfl,F2,HST.out.trans st2⟩
   | ok S1=>
    go_enter Tryz.func123,Tryz.ntmps123
    go_wp2_with (first | (go_at_call 184;refine (CM.out _).mono ?_;rintro e w' ⟨rfl,rfl⟩) | (go_at_call 190;refine C1.out.mono ?_;rintro e w2 ⟨rfl,F2,hm2,st2⟩))
    go_ret
    rw [HP.out]
    exact ⟨rfl,F2,hm2,HST.out.trans st2⟩
  by_cases h2 : c = [73,78,76,73,78,69]
  ·subst h2
   have HP:=Lib.hid (show Xc.top [73,78,76,73,78,69] S = Xc.flag 2 (Xc.num [] S) from by rw [HTOP.out,if_neg (by decide)];exact if_pos rfl)
   clear HTOP
   generalize Xc.flag 2 (Xc.num [] S) = r at *
   cases r with
   | stuck=>
    go_enter Tryz.func123,Tryz.ntmps123
    go_wp2_with (first | (go_at_call 184;refine (CM.out _).mono ?_;rintro e w' ⟨rfl,rfl⟩) | (go_at_call 190;refine C2.out.mono ?_;rintro e w2 hpost;exact absurd hpost id))
   | bad n=>
    go_enter Tryz.func123,Tryz.ntmps123
    go_wp2_with (first | (go_at_call 184;refine (CM.out _).mono ?_;rintro e w' ⟨rfl,rfl⟩) | (go_at_call 190;refine C2.out.mono ?_;rintro e w2 ⟨rfl,F2,st2⟩))
    go_ret
    rw [HP.out]
    exact ⟨rfl,F2,HST.out.trans st2⟩
   | ok S1=>
    go_enter Tryz.func123,Tryz.ntmps123
    go_wp2_with (first | (go_at_call 184;refine (CM.out _).mono ?_;rintro e w' ⟨rfl,rfl⟩) | (go_at_call 190;refine C2.out.mono ?_;rintro e w2 ⟨rfl,F2,hm2,st2⟩))
    go_ret
    rw [HP.out]
    exact ⟨rfl,F2,hm2,HST.out.trans st2⟩
  by_cases h3 : c = [78,79,84,65,73,76]
  ·subst h3
   have HP:=Lib.hid (show Xc.top [78,79,84,65,73,76] S = Xc.flag 4 (Xc.num [] S) from by rw [HTOP.out,if_neg (by decide),if_neg (by decide)];exact if_pos rfl)
   clear HTOP
   generalize Xc.flag 4 (Xc.num [] S) = r at *
   cases r with
   | stuck=>
    go_enter Tryz.func123,Tryz.ntmps123
    go_wp2_with (first | (go_at_call 184;refine (CM.out _).mono ?_;rintro e w' ⟨rfl,rfl⟩) | (go_at_call 190;refine C4.out.mono ?_;rintro e w2 hpost;exact absurd hpost id))
   | bad n=>
    go_enter Tryz.func123,Tryz.ntmps123
    go_wp2_with (first | (go_at_call 184;refine (CM.out _).mono ?_;rintro e w' ⟨rfl,rfl⟩) | (go_at_call 190;refine C4.out.mono ?_;rintro e w2 ⟨rfl,F2,st2⟩))
    go_ret
    rw [HP.out]
    exact ⟨rfl,F2,HST.out.trans st2⟩
   | ok S1=>
    go_enter Tryz.func123,Tryz.ntmps123
    go_wp2_with (first | (go_at_call 184;refine (CM.out _).mono ?_;rintro e w' ⟨rfl,rfl⟩) | (go_at_call 190;refine C4.out.mono ?_;rintro e w2 ⟨rfl,F2,hm2,st2⟩))
    go_ret
    rw [HP.out]
    exact ⟨rfl,F2,hm2,HST.out.trans st2⟩
  have e1 : (c == [73,77,77,69,68,73,65,84,69]) = false:=by simpa using h1
  have e2 : (c == [73,78,76,73,78,69]) = false:=by simpa using h2
  have e3 : (c == [78,79,84,65,73,76]) = false:=by simpa using h3
  have HP:=Lib.hid (show Xc.top c S = if (L6.number c).2 = false then .bad 40 else .ok (Xc.num c S) from by rw [HTOP.out,if_neg (show ¬ c = Xc.tImm from h1),if_neg (show ¬ c = Xc.tInl from h2),if_neg (show ¬ c = Xc.tNot from h3)])
  clear HTOP h1 h2 h3
  generalize L6.number c = nv at *
  obtain ⟨nv1,nv2⟩:=nv
  dsimp only at CN HP
  cases nv2
  ·rw [if_pos rfl] at HP
   go_enter Tryz.func123,Tryz.ntmps123
   go_wp2_with (first | (go_at_call 184;refine (CM.out _).mono ?_;rintro e w' ⟨rfl,rfl⟩) | (go_at_call 167;refine (CN.out _).mono ?_;rintro e w' ⟨rfl,rfl⟩))
   go_ret
   rw [HP.out]
   exact ⟨rfl,F,HST.out⟩
  ·rw [if_neg (by decide)] at HP
   go_enter Tryz.func123,Tryz.ntmps123
   go_wp2_with (first | (go_at_call 184;refine (CM.out _).mono ?_;rintro e w' ⟨rfl,rfl⟩) | (go_at_call 167;refine (CN.out _).mono ?_;rintro e w' ⟨rfl,rfl⟩))
   go_ret
   rw [HP.out]
   exact ⟨rfl,F,HM2.out,HST2.out⟩
theorem xlabel0_any (n : List UInt8) (w : World) (hn : n.length ≤ 100000) : Calls Tryz.prog 25 #[.int .i64 0,.string ⟨n.toArray⟩] w fun e w'=>e = .returned (.string ⟨(Xc.label0 n).toArray⟩) ∧ Below w.heap.size w w':=by
 have CI:=Lib.hid (show ∀ W,Calls Tryz.prog 61 #[.int .i64 0] W fun e w'=>e = .returned (.string ⟨#[48]⟩) ∧ Below W.heap.size W w' from fun W=>(litoa_any 0 W (by decide) (.inl (by decide))).mono fun e w' h=>⟨h.1.trans (by unfold Lib.decDigits;rfl),h.2⟩)
 have EZ:=Lib.hid (show (⟨#[61]⟩ : ByteArray) ++ ⟨#[48]⟩ ++ ⟨n.toArray⟩ = ⟨(Xc.label0 n).toArray⟩ from app_eq [61,48] n)
 have hsum : ¬ 9223372036854775807 < 2 + n.length:=by omega
 generalize Xc.label0 n = z at *
 go_enter Tryz.func25,Tryz.ntmps25
 go_wp2_with (go_at_call 61;refine (CI.out _).mono ?_;rintro e w1 ⟨rfl,hb1⟩)
 go_ret
 exact ⟨congrArg (fun x=>Ending.returned (.string x)) EZ.out,hb1⟩
set_option maxRecDepth 100000 in
set_option maxHeartbeats 4000000 in
theorem xquoted_any {F : Nat → Prop} {w : World} {gm : Nat} {tag : List UInt8} {S : Xc.S} (h : Xc.Mk F w gm tag S) (hne : S.words ≠ []) (hok : Xc.Ok 4 S) (hT : Xc.Tb F w) (c : List UInt8) (hc : c = Xc.tTick ∨ c = Xc.tChar) :
  Calls Tryz.prog 187 #[.pointer (some ⟨gm,0,none⟩),.string ⟨c.toArray⟩] w (Xc.RPost F w gm tag (Xc.quoted c S)):=by
 have hsn:=h.seen
 have hs:=hok.s
 have hwl:=Xc.word_rest S.s
 have CN:=Lib.hid (xnext_any gm S.s w hsn.c0 (hsn.f 0) (by omega))
 obtain ⟨m1,s1⟩:=h.setF 0 (.string ⟨(Xc.rest S.s).toArray⟩) (S':=Xc.atRest (Xc.rest S.s) S) rfl rfl (fun vw vo=>by simp [Xc.cells,Xc.atRest])
 have HST:=Lib.hid s1
 have HM1:=Lib.hid m1
 have HTB:=Lib.hid (hT.step s1)
 have HNE:=Lib.hid hne
 have HOK:=Lib.hid (hok.atRest (Xc.rest S.s) (by omega))
 have HQ:=Lib.hid (show Xc.quoted c S = (if Xc.word S.s = [] then .bad 40 else if c = Xc.tTick then .ok (Xc.push (Xc.lLa ++ Xc.label0 (Xc.word S.s)) (Xc.atRest (Xc.rest S.s) S)) else .ok (Xc.push (Xc.lLi ++ Lib.decDigits ((Xc.word S.s).getD 0 0).toNat) (Xc.atRest (Xc.rest S.s) S))) from rfl)
 have HW:=Lib.hid (show (Xc.word S.s).length ≤ 100000 from by omega)
 have HZ:=Lib.hid (show (w.setCell ⟨gm,0,none⟩ (.string ⟨(Xc.rest S.s).toArray⟩)).heap.size = w.heap.size by simp [World.setCell])
 clear h hne hok hsn hs hwl m1 s1 hT
 generalize Xc.word S.s = y at *
 generalize Xc.rest S.s = rr at *
 cases y with
 | nil=>
  rw [if_pos rfl] at HQ
  go_enter Tryz.func187,Tryz.ntmps187
  go_wp2_with (go_at_call 120;refine CN.out.mono ?_;rintro e w' ⟨rfl,rfl⟩)
  go_ret
  rw [HQ.out]
  exact ⟨rfl,F,HST.out⟩
 | cons y0 yt=>
  rw [if_neg (by simp)] at HQ
  rcases hc with rfl | rfl
  ·rw [if_pos rfl] at HQ
   have CL:=Lib.hid (fun W=>xlabel0_any (y0 :: yt) W HW.out)
   obtain ⟨z,hz⟩ : ∃ z,Xc.lLa ++ Xc.label0 (y0 :: yt) = z:=⟨_,rfl⟩
   have ez : (⟨#[108,97,32,116,48,32]⟩ : ByteArray) ++ ⟨(Xc.label0 (y0 :: yt)).toArray⟩ = ⟨z.toArray⟩:=by rw [← hz];exact app_eq Xc.lLa _
   have hll : (Xc.label0 (y0 :: yt)).length ≤ 100002:=by have:=HW.out;unfold Xc.label0 Xc.lZero;simp only [List.length_append,List.length_cons,List.length_nil] at *;omega
   have hsum : ¬ 9223372036854775807 < 6 + (Xc.label0 (y0 :: yt)).length:=by omega
   have HZL:=Lib.hid (show z.length ≤ 500000 from by rw [← hz,List.length_append];simp only [Xc.lLa,List.length_cons,List.length_nil];omega)
   rw [hz] at HQ
   clear hz hll
   generalize Xc.label0 (y0 :: yt) = lb at *
   go_enter Tryz.func187,Tryz.ntmps187
   go_wp2_with (first | (go_at_call 120;refine CN.out.mono ?_;rintro e w' ⟨rfl,rfl⟩) | (go_at_call 25;refine (CL.out _).mono ?_;rintro e w2 ⟨rfl,hb2⟩))
   have hb2' : Below (w.setCell ⟨gm,0,none⟩ (.string ⟨rr.toArray⟩)).heap.size (w.setCell ⟨gm,0,none⟩ (.string ⟨rr.toArray⟩)) w2:=hb2
   have C2:=Lib.hid (xpush_any (HM1.out.kept hb2') HNE.out (HOK.out.mono (by omega)) z HZL.out)
   go_wp2_with (go_at_call 188;refine C2.out.mono ?_;rintro e w3 ⟨rfl,F3,hm3,st3⟩)
   go_ret
   rw [HQ.out]
   exact ⟨rfl,F3,hm3,(HST.out.trans (Step.of_below hb2')).trans st3⟩
  ·rw [if_neg (by decide)] at HQ
   have hlt:=y0.toNat_lt
   have CI:=Lib.hid (litoa_any y0.toNat (w.setCell ⟨gm,0,none⟩ (.string ⟨rr.toArray⟩)) (by omega) (.inr HTB.out.1))
   obtain ⟨z,hz⟩ : ∃ z,Xc.lLi ++ Lib.decDigits y0.toNat = z:=⟨_,rfl⟩
   have ez : (⟨#[108,105,32,116,48,32]⟩ : ByteArray) ++ ⟨(Lib.decDigits y0.toNat).toArray⟩ = ⟨z.toArray⟩:=by rw [← hz];exact app_eq Xc.lLi _
   have hdl:=Xc.dec_len10 2 y0.toNat (by omega)
   have hsum : ¬ 9223372036854775807 < 6 + (Lib.decDigits y0.toNat).length:=by omega
   have HZL:=Lib.hid (show z.length ≤ 500000 from by rw [← hz,List.length_append];simp only [Xc.lLi,List.length_cons,List.length_nil];omega)
   have hpos : 0 < (y0 :: yt).length:=by simp
   have hw1 : IntKind.i64.wrap (y0.toNat : Int) = (y0.toNat : Int):=by rw [IntKind.wrap_i64];omega
   have e0 : (⟨(y0 :: yt).toArray⟩ : ByteArray)[0]'hpos = y0:=L6.get_data (y0 :: yt) 0 hpos
   have HQ2:=Lib.hid (show Xc.quoted Xc.tChar S = .ok (Xc.push z (Xc.atRest rr S)) from by rw [HQ.out,← hz];rfl)
   clear hz hdl HQ
   generalize Lib.decDigits y0.toNat = dg at *
   go_enter Tryz.func187,Tryz.ntmps187
   go_wp2_with (first | (go_at_call 120;refine CN.out.mono ?_;rintro e w' ⟨rfl,rfl⟩) | (go_at_call 61;refine CI.out.mono ?_;rintro e w2 ⟨rfl,hb2⟩))
   have hb2' : Below (w.setCell ⟨gm,0,none⟩ (.string ⟨rr.toArray⟩)).heap.size (w.setCell ⟨gm,0,none⟩ (.string ⟨rr.toArray⟩)) w2:=hb2
   have C2:=Lib.hid (xpush_any (HM1.out.kept hb2') HNE.out (HOK.out.mono (by omega)) z HZL.out)
   go_wp2_with (go_at_call 188;refine C2.out.mono ?_;rintro e w3 ⟨rfl,F3,hm3,st3⟩)
   go_ret
   rw [HQ2.out]
   exact ⟨rfl,F3,hm3,(HST.out.trans (Step.of_below hb2')).trans st3⟩
end Go.Proofs.YtpcpaoeajcjoiaaGreatDoor
