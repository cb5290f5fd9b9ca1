/- Texts joined, what is not reached left out. -/
import Derived.Test.YtpcpaoeajcjoiaaGreatDoorCP
import Derived.Test.YtpcpaoeajcjoiaaGreatDoorPH
set_option linter.unusedVariables false
set_option linter.unusedSimpArgs false
namespace Go.Proofs.YtpcpaoeajcjoiaaGreatDoor
def Cb.l1 : List UInt8:=[58,58,86,65,82,73,65,66,76,69,32,86]
def Cb.l2 : List UInt8:=[55,32,67,79,78,83,84,65,78,84,32,83,69,86,69,78]
def Cb.l3 : List UInt8:=[58,32,79,78,69,32,86,32,83,69,86,69,78,32,59]
def Cb.head3 : List UInt8:=Cb.l1 ++ 10 :: (Cb.l2 ++ 10 :: (Cb.l3 ++ [10]))
def Cb.two : List UInt8:=[58,32,84,87,79]
def Cb.l4 (l : List Nat) : List UInt8:=Cb.two ++ (Cb.src l ++ Cb.tail)
def Cb.source (l : List Nat) : List UInt8:=Cb.head3 ++ (Cb.l4 l ++ [10])
def Cb.fV : List UInt8:=Xc.lPart ++ Cb.tV
def Cb.fSeven : List UInt8:=Xc.lDef ++ Cb.tSeven
def Cb.fOne : List UInt8:=Xc.lDef ++ Cb.tOne
def Cb.fTwo : List UInt8:=Xc.lDef ++ Cb.tTwo
def Cb.W3 : List Xc.W:=[⟨Cb.fV,0,[Xc.lLa ++ Cb.tAmp,Xc.lAddi,Xc.lSw,Xc.lRet,Cb.tAmp ++ Xc.lWord]⟩,⟨Cb.fSeven,0,[Xc.lLi ++ [55],Xc.lAddi,Xc.lSw,Xc.lRet]⟩,
 ⟨Cb.fOne,0,[Xc.lDown,Xc.lSave,Xc.lCall ++ Xc.label0 Cb.tV,Xc.lCall ++ Xc.label0 Cb.tSeven,Xc.lRa,Xc.lSp,Xc.lRet]⟩]
def Cb.S3 : Xc.S:=⟨[],Cb.W3,false,Cb.tOne,[],0,[]⟩
theorem Cb.line1 : Xc.line [76] 13 (Xc.atRest Cb.l1 Xc.start) = .ok ⟨[],[⟨Cb.fV,0,[Xc.lLa ++ Cb.tAmp,Xc.lAddi,Xc.lSw,Xc.lRet,Cb.tAmp ++ Xc.lWord]⟩],false,Cb.tV,[],0,[]⟩:=by kernel_rfl
theorem Cb.line2 : Xc.line [76] 17 (Xc.atRest Cb.l2 ⟨[],[⟨Cb.fV,0,[Xc.lLa ++ Cb.tAmp,Xc.lAddi,Xc.lSw,Xc.lRet,Cb.tAmp ++ Xc.lWord]⟩],false,Cb.tV,[],0,[]⟩) = .ok ⟨[],[⟨Cb.fV,0,[Xc.lLa ++ Cb.tAmp,Xc.lAddi,Xc.lSw,Xc.lRet,Cb.tAmp ++ Xc.lWord]⟩,⟨Cb.fSeven,0,[Xc.lLi ++ [55],Xc.lAddi,Xc.lSw,Xc.lRet]⟩],false,Cb.tSeven,[],0,[]⟩:=by kernel_rfl
theorem Cb.line3 : Xc.line [76] 16 (Xc.atRest Cb.l3 ⟨[],[⟨Cb.fV,0,[Xc.lLa ++ Cb.tAmp,Xc.lAddi,Xc.lSw,Xc.lRet,Cb.tAmp ++ Xc.lWord]⟩,⟨Cb.fSeven,0,[Xc.lLi ++ [55],Xc.lAddi,Xc.lSw,Xc.lRet]⟩],false,Cb.tSeven,[],0,[]⟩) = .ok Cb.S3:=by kernel_rfl
theorem Xc.comp_ok {tag t : List UInt8} {n : Nat} {S S1 : Xc.S} {r : List (List UInt8)} (h1 : Xc.alone t Xc.tAsm = false) (h2 : Xc.line tag (t.length + 1) (Xc.atRest t S) = .ok S1) : Xc.comp tag n S (t :: r) = Xc.comp tag (n + 1) S1 r:=by
 rw [Xc.comp,if_neg (fun h=>by rw [h1] at h;exact absurd h.2.2 (by decide)),h2]
theorem Xc.comp_bad {tag t : List UInt8} {n e : Nat} {S : Xc.S} {r : List (List UInt8)} (h1 : Xc.alone t Xc.tAsm = false) (h2 : Xc.line tag (t.length + 1) (Xc.atRest t S) = .bad e) : Xc.comp tag n S (t :: r) = .bad (n + 1) e:=by
 rw [Xc.comp,if_neg (fun h=>by rw [h1] at h;exact absurd h.2.2 (by decide)),h2]
theorem Cb.comp3 (r : List (List UInt8)) : Xc.comp [76] 0 Xc.start (Cb.l1 :: Cb.l2 :: Cb.l3 :: r) = Xc.comp [76] 3 Cb.S3 r:=by
 rw [Xc.comp_ok (by decide +kernel) Cb.line1,Xc.comp_ok (by decide +kernel) Cb.line2,Xc.comp_ok (by decide +kernel) Cb.line3]
theorem Cb.colon : Xc.Fine Xc.tColon:=⟨by decide,by decide,by decide,by decide,by decide,by decide⟩
theorem Cb.src_len : ∀ l : List Nat,l.length ≤ (Cb.src l).length
 | []=>Nat.le_refl _
 | i :: r=>by
  have:=Cb.src_len r
  show r.length + 1 ≤ (32 :: Cb.wd i ++ Cb.src r).length
  simp only [List.length_append,List.length_cons]
  omega
def Cb.after (l : List Nat) : List UInt8:=Cb.src l ++ Cb.tail
theorem Cb.after_head (l : List Nat) : Cb.after l = [] ∨ (Cb.after l).headD 0 = 32:=Cb.src_head l Cb.tail (.inr rfl)
theorem Cb.begin_two (l : List Nat) (n : Nat) : Xc.line [76] (n + 1) (Xc.atRest (Cb.l4 l) Cb.S3) = Xc.line [76] n (Xc.atRest (Cb.after l) (Cb.toS Cb.W3 Cb.fTwo Cb.T0)):=by
 have e0 : Cb.l4 l = Xc.tColon ++ (32 :: (Cb.tTwo ++ Cb.after l)):=rfl
 obtain ⟨a1,a2⟩:=Xc.word_of (w:=Cb.tTwo) (Cb.after l) (by decide) (by decide) (Cb.after_head l)
 have sk : ∀ s : List UInt8,Xc.skip (32 :: s) = Xc.skip s:=fun s=>by unfold Xc.skip;rw [List.dropWhile_cons,if_pos Xc.gap32]
 have hw : ∀ s : List UInt8,Xc.word (32 :: s) = Xc.word s ∧ Xc.rest (32 :: s) = Xc.rest s:=fun s=>by unfold Xc.word Xc.rest;rw [sk];exact ⟨rfl,rfl⟩
 rw [e0,Xc.line_step Cb.colon (.inr rfl)]
 have h : Xc.one [76] Xc.tColon (Xc.atRest (32 :: (Cb.tTwo ++ Cb.after l)) Cb.S3) = .ok (Xc.atRest (Cb.after l) (Cb.toS Cb.W3 Cb.fTwo Cb.T0)):=by
  unfold Xc.one
  rw [if_neg (by show ¬ false = true;decide)]
  unfold Xc.top
  rw [show Xc.makes Xc.tColon = some Xc.tColon from rfl]
  dsimp only
  unfold Xc.make
  rw [if_neg (by rw [show (Xc.atRest (32 :: (Cb.tTwo ++ Cb.after l)) Cb.S3).number = [] from rfl];decide)]
  unfold Xc.begin
  have es : ∀ S : Xc.S,(Xc.num [] (Xc.atRest (32 :: (Cb.tTwo ++ Cb.after l)) S)).s = 32 :: (Cb.tTwo ++ Cb.after l):=fun _=>rfl
  rw [es,(hw _).1,a1,if_neg (by decide),if_neg (by decide),if_neg (by decide)]
  dsimp only
  unfold Xc.named
  rw [es,(hw _).1,(hw _).2,a1,a2]
  rfl
 rw [h]
theorem Cb.alone4 (l : List Nat) : Xc.alone (Cb.l4 l) Xc.tAsm = false:=by
 obtain ⟨a1,_⟩:=Xc.word_of (w:=Xc.tColon) (32 :: (Cb.tTwo ++ Cb.after l)) (by decide) (by decide) (.inr rfl)
 have e0 : Cb.l4 l = Xc.tColon ++ (32 :: (Cb.tTwo ++ Cb.after l)):=rfl
 unfold Xc.alone
 rw [e0,a1]
 rfl
theorem Cb.wd_nl (i : Nat) : (10 : UInt8) ∉ Cb.wd i:=by
 by_cases h : i < 18
 ·have : ∀ i : Fin 18,(10 : UInt8) ∉ Cb.wd i.val:=by decide +kernel
  exact this ⟨i,h⟩
 ·have : Cb.wd i = []:=by
   unfold Cb.wd
   rw [List.getD_eq_getElem?_getD,List.getElem?_eq_none (by show 18 ≤ i;omega)]
   rfl
  rw [this]
  simp
theorem Cb.src_nl (l : List Nat) : (10 : UInt8) ∉ Cb.src l:=by
 intro h
 obtain ⟨i,_,h⟩:=List.mem_flatMap.1 h
 rcases List.mem_cons.1 h with h | h
 ·exact absurd h (by decide)
 ·exact Cb.wd_nl i h
theorem Cb.split (l : List Nat) : L6.split (Cb.source l) = [Cb.l1,Cb.l2,Cb.l3,Cb.l4 l]:=by
 have h4 : (10 : UInt8) ∉ Cb.l4 l:=by
  unfold Cb.l4
  rw [List.mem_append,List.mem_append]
  rintro (h | h | h)
  ·exact absurd h (by decide)
  ·exact Cb.src_nl l h
  ·exact absurd h (by decide)
 have e : Cb.source l = Cb.l1 ++ 10 :: (Cb.l2 ++ 10 :: (Cb.l3 ++ 10 :: (Cb.l4 l ++ 10 :: []))):=by
  unfold Cb.source Cb.head3
  simp
 rw [e,Xc.split_line _ _ (by decide),Xc.split_line _ _ (by decide),Xc.split_line _ _ (by decide),Xc.split_line _ _ h4]
 rfl
def Cb.out (l : List Nat) : Option Cb.T:=(Cb.run l Cb.T0).bind fun T=>if T.opens = [] then some T else none
theorem Cb.compile (l : List Nat) (h : ∀ i ∈ l,i < 18) : Xc.compile [76] (Cb.source l) = match Cb.out l with | some T=>some (Xc.text (Cb.W3 ++ [Cb.word Cb.fTwo T]),0,0) | none=>some ([],4,44):=by
 unfold Xc.compile
 rw [Cb.split,Cb.comp3]
 have hl:=Cb.src_len l
 have hlen : (Cb.l4 l).length = ((Cb.l4 l).length - l.length - 3) + 3 + l.length:=by
  have : (Cb.l4 l).length = 5 + ((Cb.src l).length + 12):=by unfold Cb.l4;rw [List.length_append,List.length_append];rfl
  omega
 have key:=Cb.line_words Cb.W3 Cb.fTwo Cb.tail (.inr rfl) ((Cb.l4 l).length - l.length - 3 + 3) l Cb.T0 h Cb.ok0
 have hline : Xc.line [76] ((Cb.l4 l).length + 1) (Xc.atRest (Cb.l4 l) Cb.S3) = match Cb.run l Cb.T0 with | some T1=>Xc.line [76] ((Cb.l4 l).length - l.length - 3 + 3) (Xc.atRest Cb.tail (Cb.toS Cb.W3 Cb.fTwo T1)) | none=>.bad 44:=by
  rw [Cb.begin_two]
  rw [← hlen] at key
  exact key
 unfold Cb.out
 cases hr : Cb.run l Cb.T0 with
 | none=>
  rw [hr] at hline
  rw [Xc.comp_bad (Cb.alone4 l) hline]
  rfl
 | some T=>
  rw [hr] at hline
  dsimp only at hline
  rw [Cb.line_tail Cb.W3 Cb.fTwo (by decide)] at hline
  dsimp only [Option.bind]
  by_cases ho : T.opens = []
  ·rw [if_pos ho] at hline
   rw [if_pos ho,Xc.comp_ok (Cb.alone4 l) hline]
   rfl
  ·rw [if_neg ho] at hline
   rw [if_neg ho,Xc.comp_bad (Cb.alone4 l) hline]
end Go.Proofs.YtpcpaoeajcjoiaaGreatDoor
namespace Go.Proofs.YtpcpaoeajcjoiaaGreatDoor
theorem As.data_mod (w : List UInt8) {a b : Nat} (h : a % 4 = b % 4) (x : As.L) : As.data w a x = As.data w b x:=by
 unfold As.data
 rw [h]
theorem As.pieces_mod (x : L6.Line) {a b : Nat} (h : a % 4 = b % 4) : As.pieces x a = As.pieces x b:=by
 have e : As.read x.word a ⟨x.args,true,[]⟩ = As.read x.word b ⟨x.args,true,[]⟩:=by
  unfold As.read
  rw [As.data_mod x.word h]
 unfold As.pieces
 rw [e]
def Cb.okQ (K : List (List UInt8)) (p : As.P) : Bool:=
 if p.code then p.bytes.isEmpty && (
   if p.kind = 0 then decide ((Is.enc p.inst).2 = 0)
   else decide (p.name ∈ K) && (
    if p.kind = 1 then decide (p.inst.op = 2 ∧ (p.inst.rd = 0 ∨ p.inst.rd = 1) ∧ p.inst.rs1 = 0 ∧ p.inst.rs2 = 0)
    else if p.kind = 2 then decide (p.inst.op = 0 ∧ p.inst.rd = 5 ∧ p.inst.rs1 = 0 ∧ p.inst.rs2 = 0)
    else if p.kind = 3 then decide (p.inst.op = 18 ∧ p.inst.rd = 5 ∧ p.inst.rs1 = 5 ∧ p.inst.rs2 = 0)
    else false))
 else decide (p.kind = 0) || (decide (p.bytes.length = 4) && ((decide (p.kind = 4) && decide (p.name ∈ K)) || (decide (p.kind = 5) && (decide (p.name ∈ K) && decide (p.src ∈ K)))))
def Cb.okL (K : List (List UInt8)) (here : Nat) (ps : List As.P) : Bool:=ps.all (Cb.okQ K) && (ps.tail.all (fun p=>p.kind != 1) && (!As.lead ps || decide (here % 4 = 0)))
def Cb.Known (sy : List (List UInt8 × Nat)) (a : Nat) (K : List (List UInt8)) : Prop:=∀ s ∈ K,∃ v,As.look sy s = some v ∧ v % 4 = 0 ∧ a ≤ v ∧ v ≤ a + 131072
theorem Cb.enc_jal (rd n : Int) (hr : rd = 0 ∨ rd = 1) (h1 : -1048576 ≤ n) (h2 : n ≤ 1048574) (h3 : n % 2 = 0) : (Is.enc ⟨2,rd,0,0,n⟩).2 = 0:=by
 have h : Is.legal ⟨2,rd,0,0,n⟩ = true:=by
  unfold Is.legal
  have hs : Is.shape 2 = 1:=by decide
  simp only [hs]
  rcases hr with rfl | rfl <;> simp [Is.regB,Is.uses,h1,h2,h3]
 unfold Is.enc
 rw [if_pos h]
theorem Cb.enc_lui (n : Int) (h1 : 0 ≤ n) (h2 : n ≤ 1048575) : (Is.enc ⟨0,5,0,0,n⟩).2 = 0:=by
 have h : Is.legal ⟨0,5,0,0,n⟩ = true:=by
  unfold Is.legal
  have hs : Is.shape 0 = 0:=by decide
  simp only [hs]
  simp [Is.regB,Is.uses,h1,h2]
 unfold Is.enc
 rw [if_pos h]
theorem Cb.enc_addi (n : Int) (h1 : -2048 ≤ n) (h2 : n ≤ 2047) : (Is.enc ⟨18,5,5,0,n⟩).2 = 0:=by
 have h : Is.legal ⟨18,5,5,0,n⟩ = true:=by
  unfold Is.legal
  have hs : Is.shape 18 = 2:=by decide
  simp only [hs]
  simp [Is.regB,Is.uses,h1,h2]
 unfold Is.enc
 rw [if_pos h]
theorem Cb.aim_far {v at_ a : Nat} (h1 : v % 4 = 0) (h2 : a ≤ v) (h3 : v ≤ a + 131072) (h4 : at_ % 4 = 0) (h5 : a ≤ at_) (h6 : at_ ≤ a + 131072) : -1048576 ≤ As.s32 (As.bits ((v : Int) - (at_ : Int))) ∧ As.s32 (As.bits ((v : Int) - (at_ : Int))) ≤ 1048574 ∧ As.s32 (As.bits ((v : Int) - (at_ : Int))) % 2 = 0:=by
 have hb : As.bits ((v : Int) - (at_ : Int)) = (((v : Int) - (at_ : Int)) % 4294967296).toNat:=rfl
 by_cases h : at_ ≤ v
 ·have e : As.bits ((v : Int) - (at_ : Int)) = v - at_:=by rw [hb];omega
  rw [e]
  unfold As.s32
  rw [if_pos (by omega)]
  omega
 ·have e : As.bits ((v : Int) - (at_ : Int)) = 4294967296 - (at_ - v):=by rw [hb];omega
  rw [e]
  unfold As.s32
  rw [if_neg (by omega)]
  omega
theorem Cb.piece_ok {sy : List (List UInt8 × Nat)} {a : Nat} {K : List (List UInt8)} (hK : Cb.Known sy a K) {p : As.P} (h : Cb.okQ K p = true) (at_ : Nat) (h1 : p.kind = 1 → at_ % 4 = 0 ∧ a ≤ at_ ∧ at_ ≤ a + 131072) :
  ∃ bs,As.piece sy p at_ = (bs,0) ∧ bs.length = As.size1 p:=by
 obtain ⟨code,inst,bytes,kind,name,src⟩:=p
 unfold Cb.okQ at h
 dsimp only at h h1
 unfold As.size1
 dsimp only
 cases code with
 | false=>
  rw [if_neg (by decide)] at h
  simp only [Bool.or_eq_true,Bool.and_eq_true,decide_eq_true_eq] at h
  rcases h with rfl | ⟨hl,⟨rfl,hn⟩ | ⟨rfl,hn,hs⟩⟩
  ·refine ⟨bytes,?_,by simp⟩
   unfold As.piece
   rw [if_pos ⟨rfl,rfl⟩]
  ·obtain ⟨v,hv,_⟩:=hK name hn
   refine ⟨As.four v,?_,by rw [hl];rfl⟩
   unfold As.piece
   rw [if_neg (by simp),if_neg (by rw [hv];simp),if_neg (by simp),if_pos rfl,hv]
   rfl
  ·obtain ⟨v,hv,_⟩:=hK name hn
   obtain ⟨u,hu,_⟩:=hK src hs
   refine ⟨As.four (As.bits ((v : Int) - (u : Int))),?_,by rw [hl];rfl⟩
   unfold As.piece
   rw [if_neg (by simp),if_neg (by rw [hv];simp),if_pos rfl]
   dsimp only
   rw [hu,hv]
   rfl
 | true=>
  rw [if_pos rfl] at h
  obtain ⟨hb,h⟩:=Bool.and_eq_true_iff.1 h
  have hb : bytes = []:=by simpa using hb
  subst hb
  have done : ∀ i : Is.Inst,(Is.enc i).2 = 0 → ∃ bs : List UInt8,(if (Is.enc i).2 = 0 then (As.four (Is.enc i).1.toNat,0) else (([] : List UInt8),(20 : Nat))) = (bs,0) ∧ bs.length = ([] : List UInt8).length + 4:=fun i hi=>⟨As.four (Is.enc i).1.toNat,by rw [if_pos hi],rfl⟩
  by_cases h0 : kind = 0
  ·subst h0
   rw [if_pos rfl,decide_eq_true_eq] at h
   refine ⟨As.four (Is.enc inst).1.toNat,?_,rfl⟩
   unfold As.piece
   rw [if_neg (by simp),if_neg (by simp),if_neg (by simp),if_neg (by simp)]
   have e : ∀ v,As.aim ⟨true,inst,[],0,name,src⟩ v at_ = (inst,20):=fun v=>by
    unfold As.aim
    rw [if_neg (by simp),if_neg (by simp),if_neg (by simp)]
   rw [e,if_pos h]
  ·rw [if_neg h0] at h
   obtain ⟨hn,h⟩:=Bool.and_eq_true_iff.1 h
   obtain ⟨v,hv,hv4,hva,hvb⟩:=hK name (of_decide_eq_true hn)
   by_cases k1 : kind = 1
   ·subst k1
    rw [if_pos rfl,decide_eq_true_eq] at h
    obtain ⟨r1,r2,r3,r4⟩:=h
    obtain ⟨a1,a2,a3⟩:=h1 rfl
    obtain ⟨b1,b2,b3⟩:=Cb.aim_far hv4 hva hvb a1 a2 a3
    have he : (Is.enc (As.imm inst (As.s32 (As.bits ((v : Int) - (at_ : Int)))))).2 = 0:=by
     obtain ⟨op,rd,rs1,rs2,im⟩:=inst
     dsimp only at r1 r2 r3 r4
     subst r1 r3 r4
     exact Cb.enc_jal rd _ r2 b1 b2 b3
    refine ⟨As.four (Is.enc (As.imm inst (As.s32 (As.bits ((v : Int) - (at_ : Int)))))).1.toNat,?_,rfl⟩
    unfold As.piece
    rw [if_neg (by simp),if_neg (by rw [hv];simp),if_neg (by simp),if_neg (by simp),hv]
    have e : As.aim ⟨true,inst,[],1,name,src⟩ ((some v).getD 0) at_ = (As.imm inst (As.s32 (As.bits ((v : Int) - (at_ : Int)))),43):=by
     unfold As.aim
     rw [if_pos rfl]
     rfl
    rw [e,if_pos he]
   ·rw [if_neg k1] at h
    by_cases k2 : kind = 2
    ·subst k2
     rw [if_pos rfl,decide_eq_true_eq] at h
     obtain ⟨r1,r2,r3,r4⟩:=h
     have he : (Is.enc (As.imm inst (As.hi (As.s32 v)))).2 = 0:=by
      obtain ⟨op,rd,rs1,rs2,im⟩:=inst
      dsimp only at r1 r2 r3 r4
      subst r1 r2 r3 r4
      exact Cb.enc_lui _ (by unfold As.hi;omega) (by unfold As.hi;omega)
     refine ⟨As.four (Is.enc (As.imm inst (As.hi (As.s32 v)))).1.toNat,?_,rfl⟩
     unfold As.piece
     rw [if_neg (by simp),if_neg (by rw [hv];simp),if_neg (by simp),if_neg (by simp),hv]
     have e : As.aim ⟨true,inst,[],2,name,src⟩ ((some v).getD 0) at_ = (As.imm inst (As.hi (As.s32 v)),20):=by
      unfold As.aim
      rw [if_neg (by simp),if_pos rfl]
      rfl
     rw [e,if_pos he]
    ·rw [if_neg k2] at h
     by_cases k3 : kind = 3
     ·subst k3
      rw [if_pos rfl,decide_eq_true_eq] at h
      obtain ⟨r1,r2,r3,r4⟩:=h
      have he : (Is.enc (As.imm inst (As.lo (As.s32 v)))).2 = 0:=by
       obtain ⟨op,rd,rs1,rs2,im⟩:=inst
       dsimp only at r1 r2 r3 r4
       subst r1 r2 r3 r4
       exact Cb.enc_addi _ (by unfold As.lo;omega) (by unfold As.lo;omega)
      refine ⟨As.four (Is.enc (As.imm inst (As.lo (As.s32 v)))).1.toNat,?_,rfl⟩
      unfold As.piece
      rw [if_neg (by simp),if_neg (by rw [hv];simp),if_neg (by simp),if_neg (by simp),hv]
      have e : As.aim ⟨true,inst,[],3,name,src⟩ ((some v).getD 0) at_ = (As.imm inst (As.lo (As.s32 v)),20):=by
       unfold As.aim
       rw [if_neg (by simp),if_neg (by simp),if_pos rfl]
       rfl
      rw [e,if_pos he]
     ·rw [if_neg k3] at h
      cases h
theorem Cb.size_cons (p : As.P) (r : List As.P) : As.size (p :: r) = As.size1 p + As.size r:=by simp [As.size]
theorem Cb.puts_rest {sy : List (List UInt8 × Nat)} {a : Nat} {K : List (List UInt8)} (hK : Cb.Known sy a K) : ∀ (ps : List As.P),ps.all (Cb.okQ K) = true → ps.all (fun p=>p.kind != 1) = true → ∀ b : List UInt8,∃ bs,bs.length = As.size ps ∧ As.puts sy a ps b = (b ++ bs,0)
 | [],_,_,b=>⟨[],rfl,by simp [As.puts]⟩
 | p :: r,h1,h2,b=>by
  rw [List.all_cons,Bool.and_eq_true] at h1 h2
  obtain ⟨bs,e1,e2⟩:=Cb.piece_ok hK h1.1 (As.at32 (a + b.length)) (fun e=>absurd e (by simpa using h2.1))
  obtain ⟨cs,e3,e4⟩:=Cb.puts_rest hK r h1.2 h2.2 (b ++ bs)
  refine ⟨bs ++ cs,by rw [List.length_append,Cb.size_cons,e2,e3],?_⟩
  unfold As.puts
  rw [e1,if_pos rfl]
  dsimp only
  rw [e4,List.append_assoc]
theorem Cb.puts_ok {sy : List (List UInt8 × Nat)} {a here : Nat} {K : List (List UInt8)} (hK : Cb.Known sy a K) (ha : a % 4 = 0) (ha2 : a ≤ 16384) (hh : here ≤ 100000) {ps : List As.P} (h : Cb.okL K here ps = true) (b : List UInt8) (hb : b.length = here) :
  ∃ bs,bs.length = As.size ps ∧ As.puts sy a ps b = (b ++ bs,0):=by
 unfold Cb.okL at h
 simp only [Bool.and_eq_true] at h
 obtain ⟨h1,h2,h3⟩:=h
 cases ps with
 | nil=>exact ⟨[],rfl,by simp [As.puts]⟩
 | cons p r=>
  rw [List.all_cons,Bool.and_eq_true] at h1
  have hat : As.at32 (a + b.length) = a + here:=by rw [hb];unfold As.at32;omega
  obtain ⟨bs,e1,e2⟩:=Cb.piece_ok hK h1.1 (As.at32 (a + b.length)) (fun e=>by
   rw [hat]
   have hc : p.code = true:=by
    have:=h1.1
    unfold Cb.okQ at this
    cases hp : p.code
    ·rw [hp,if_neg (by decide),e] at this
     simp at this
    ·rfl
   have h4 : here % 4 = 0:=by
    have : As.lead (p :: r) = true:=hc
    rw [this] at h3
    simpa using h3
   omega)
  obtain ⟨cs,e3,e4⟩:=Cb.puts_rest hK r h1.2 h2 (b ++ bs)
  refine ⟨bs ++ cs,by rw [List.length_append,Cb.size_cons,e2,e3],?_⟩
  unfold As.puts
  rw [e1,if_pos rfl]
  dsimp only
  rw [e4,List.append_assoc]
def Cb.chk (K : List (List UInt8)) : Nat → List L6.Line → Option Nat
 | here,[]=>some here
 | here,x :: r=>match As.pieces x here with
  | none=>none
  | some p=>if Cb.okL K here p = true ∧ here + As.size p ≤ 100000 then Cb.chk K (here + As.size p) r else none
def Cb.szAt (x : L6.Line) (here : Nat) : Nat:=As.size ((As.pieces x here).getD [])
def Cb.dress : Nat → List L6.Line → List (L6.Line × List UInt8)
 | _,[]=>[]
 | here,x :: r=>(x,List.replicate (Cb.szAt x here) 0) :: Cb.dress (here + Cb.szAt x here) r
theorem Cb.dress_map : ∀ (L : List L6.Line) (here : Nat),(Cb.dress here L).map (fun p=>p.1) = L
 | [],_=>rfl
 | x :: r,here=>by rw [Cb.dress,List.map_cons,Cb.dress_map r]
def Cb.Fit (sy : List (List UInt8 × Nat)) (a : Nat) : Nat → List (L6.Line × List UInt8) → Prop
 | _,[]=>True
 | here,(x,bs) :: r=>(∃ p,As.pieces x (As.at32 (a + here)) = some p ∧ ∀ b : List UInt8,b.length = here → ∃ bs',bs'.length = bs.length ∧ As.puts sy a p b = (b ++ bs',0)) ∧ Cb.Fit sy a (here + bs.length) r
theorem Cb.chk_cons {K : List (List UInt8)} {here e : Nat} {x : L6.Line} {r : List L6.Line} (h : Cb.chk K here (x :: r) = some e) : ∃ p,As.pieces x here = some p ∧ Cb.szAt x here = As.size p ∧ Cb.okL K here p = true ∧ here + As.size p ≤ 100000 ∧ Cb.chk K (here + As.size p) r = some e:=by
 rw [Cb.chk] at h
 cases hp : As.pieces x here with
 | none=>rw [hp] at h;cases h
 | some p=>
  rw [hp] at h
  dsimp only at h
  split at h
  ·rename_i h1
   exact ⟨p,rfl,by unfold Cb.szAt;rw [hp];rfl,h1.1,h1.2,h⟩
  ·cases h
theorem Cb.chk_sized {K : List (List UInt8)} {a : Nat} (ha : a % 4 = 0) (ha2 : a ≤ 16384) : ∀ (L : List L6.Line) (here e : Nat),here ≤ 100000 → Cb.chk K here L = some e → As.Sized a here (Cb.dress here L) ∧ here ≤ e ∧ e ≤ 100000
 | [],here,e,hh,h=>by cases h;exact ⟨trivial,Nat.le_refl _,hh⟩
 | x :: r,here,e,hh,h=>by
  obtain ⟨p,h1,h2,h3,h4,h5⟩:=Cb.chk_cons h
  obtain ⟨i1,i2,i3⟩:=Cb.chk_sized ha ha2 r (here + As.size p) e h4 h5
  have hat : As.at32 (a + here) = a + here:=by unfold As.at32;omega
  refine ⟨?_,by omega,i3⟩
  rw [Cb.dress,h2]
  refine ⟨⟨p,?_,by rw [List.length_replicate],fun hl=>?_⟩,by rw [List.length_replicate];omega,by rw [List.length_replicate];exact i1⟩
  ·rw [hat,As.pieces_mod x (show (a + here) % 4 = here % 4 by omega),h1]
  ·unfold Cb.okL at h3
   simp only [Bool.and_eq_true,hl,Bool.not_true,Bool.false_or,decide_eq_true_eq] at h3
   rw [hat]
   have:=h3.2.2
   omega
theorem Cb.chk_fit {K : List (List UInt8)} {a : Nat} (ha : a % 4 = 0) (ha2 : a ≤ 16384) {sy : List (List UInt8 × Nat)} (hK : Cb.Known sy a K) : ∀ (L : List L6.Line) (here e : Nat),here ≤ 100000 → Cb.chk K here L = some e → Cb.Fit sy a here (Cb.dress here L)
 | [],here,e,hh,h=>trivial
 | x :: r,here,e,hh,h=>by
  obtain ⟨p,h1,h2,h3,h4,h5⟩:=Cb.chk_cons h
  have hat : As.at32 (a + here) = a + here:=by unfold As.at32;omega
  rw [Cb.dress,h2]
  refine ⟨⟨p,by rw [hat,As.pieces_mod x (show (a + here) % 4 = here % 4 by omega),h1],fun b hb=>?_⟩,by rw [List.length_replicate];exact Cb.chk_fit ha ha2 hK r _ e h4 h5⟩
  obtain ⟨bs,e1,e2⟩:=Cb.puts_ok hK ha ha2 hh h3 b hb
  exact ⟨bs,by rw [e1,List.length_replicate],e2⟩
theorem Cb.second_fit {sy : List (List UInt8 × Nat)} {a : Nat} : ∀ (L : List (L6.Line × List UInt8)) (i : Nat) (b : List UInt8),Cb.Fit sy a b.length L → ∃ out,As.second sy a i b (L.map fun p=>p.1) = .ok out
 | [],i,b,_=>⟨b,by simp [As.second]⟩
 | (x,bs) :: r,i,b,⟨⟨p,h1,h2⟩,h3⟩=>by
  obtain ⟨bs',e1,e2⟩:=h2 b rfl
  rw [List.map_cons,As.second]
  dsimp only
  rw [h1,Option.getD_some,e2,if_pos rfl]
  dsimp only
  exact Cb.second_fit r (i + 1) (b ++ bs') (by rw [List.length_append,e1];exact h3)
theorem Cb.assemble_fit {K : List (List UInt8)} {a e : Nat} {L : List L6.Line} (ha : a % 4 = 0) (ha2 : a ≤ 16384) (hl : L.length ≤ 32768) (h : Cb.chk K 0 L = some e) (hn : (As.keys (As.symsAt a 0 (Cb.dress 0 L))).Nodup) (hK : Cb.Known (As.symsAt a 0 (Cb.dress 0 L)) a K) :
  ∃ out,As.assemble L a = ⟨out,As.symsAt a 0 (Cb.dress 0 L),0,0⟩:=by
 have h1:=(Cb.chk_sized ha ha2 L 0 e (by decide) h).1
 have h2:=As.first_new a (Cb.dress 0 L) 0 0 [] h1 (by rw [List.nil_append];exact hn)
 obtain ⟨out,h3⟩:=Cb.second_fit (Cb.dress 0 L) 0 [] (Cb.chk_fit ha ha2 hK L 0 e (by decide) h)
 rw [Cb.dress_map,List.nil_append] at h2
 rw [Cb.dress_map] at h3
 refine ⟨out,?_⟩
 unfold As.assemble
 rw [if_neg (by omega)]
 unfold As.passes
 rw [h2]
 dsimp only
 rw [h3]
end Go.Proofs.YtpcpaoeajcjoiaaGreatDoor
namespace Go.Proofs.YtpcpaoeajcjoiaaGreatDoor
def Cb.tAddi : List UInt8:=[97,100,100,105]
def Cb.tSw : List UInt8:=[115,119]
def Cb.tLw : List UInt8:=[108,119]
def Cb.rSp : List UInt8:=[115,112]
def Cb.rS0 : List UInt8:=[115,48]
def Cb.rT0 : List UInt8:=[116,48]
def Cb.rRa : List UInt8:=[114,97]
def Cb.nul : L6.Line:=⟨[],[],[]⟩
def Cb.fixL : List L6.Line:=[⟨[],Cb.tAddi,[Cb.rSp,Cb.rSp,[45,52]]⟩,⟨[],Cb.tSw,[Cb.rRa,[48],Cb.rSp]⟩,⟨[],Cb.tAddi,[Cb.rS0,Cb.rS0,[45,52]]⟩,⟨[],Cb.tSw,[Cb.rT0,[48],Cb.rS0]⟩,⟨[],Cb.tLw,[Cb.rT0,[48],Cb.rS0]⟩,
 ⟨[],Cb.tAddi,[Cb.rS0,Cb.rS0,[52]]⟩,⟨[],As.tBnez,[Cb.rT0,[56]]⟩,⟨[],Cb.tLw,[Cb.rRa,[48],Cb.rSp]⟩,⟨[],Cb.tAddi,[Cb.rSp,Cb.rSp,[52]]⟩,⟨[],As.tRet,[]⟩,⟨[],As.tLa,[Cb.rT0,Xc.label0 Cb.tOne]⟩,
 ⟨[],As.tLi,[Cb.rT0,[49,50,48]]⟩,⟨[],As.tLa,[Cb.rT0,Cb.tAmp]⟩,⟨[],As.tLi,[Cb.rT0,Cb.tM5]⟩,⟨[],As.tLi,[Cb.rT0,Cb.tHun]⟩,⟨[],As.tCall,[Xc.label0 Cb.tOne]⟩,⟨[],As.tCall,[Xc.label0 Cb.tV]⟩,
 ⟨[],As.tCall,[Xc.label0 Cb.tSeven]⟩,⟨[],As.tCall,[Xc.label0 Cb.tTwo]⟩]
def Cb.I.line : Cb.I → L6.Line
 | .fix i=>Cb.fixL.getD i Cb.nul
 | .j n=>⟨[],As.tJ,[Cb.lb n]⟩
 | .at_ n=>⟨[Cb.lb n],[],[]⟩
def Cb.fits (x : L6.Line) : Bool:=L6.right x && (decide ((Lib.join (L6.lineWords x) [32]).length ≤ 256) && (decide (F8.kind x.word = none) && (!x.labels.any F8.made && (decide (x.labels.length ≤ 1) && (decide (x.args.length ≤ 40) &&
 (x.labels.all (fun s=>decide (s.length ≤ 40)) && (x.args.all (fun s=>decide (s.length ≤ 40)) && decide (x.word.length ≤ 10))))))))
def Cb.plainW (x : L6.Line) : Bool:=decide (x.word ∉ [Im.tList,Im.tDef,Im.tPart,Im.tHeads,Im.tHead])
theorem Cb.fix_all : ∀ i : Fin 19,L6.lineText (Cb.fixL.getD i.val Cb.nul) = Cb.fixT.getD i.val [] ++ [10] ∧ Cb.fits (Cb.fixL.getD i.val Cb.nul) = true ∧ Cb.plainW (Cb.fixL.getD i.val Cb.nul) = true:=by decide +kernel
theorem Cb.lb_ne (n : Nat) : Cb.lb n ≠ []:=by unfold Cb.lb Xc.lab;simp
theorem Cb.lb_ok (n : Nat) : ∀ c ∈ Cb.lb n,As.okB c = true:=fun c hc=>by
 unfold Cb.lb Xc.lab at hc
 rcases List.mem_append.1 hc with h | h
 ·rw [List.mem_singleton.1 h];decide
 ·exact As.dg_ok (As.dec_dg n c h)
theorem Cb.lb_whole (n : Nat) : L6.whole (Cb.lb n) = true:=As.ok_whole (Cb.lb_ne n) (Cb.lb_ok n)
theorem Cb.lb_len {n : Nat} (h : n < 1000) : (Cb.lb n).length ≤ 4:=by
 have:=Xc.dec_len10 2 n (by simpa using h)
 unfold Cb.lb Xc.lab
 rw [List.length_append]
 show 1 + _ ≤ 4
 omega
theorem Cb.lb_inj {n m : Nat} (hn : n < 1000) (hm : m < 1000) (h : Cb.lb n = Cb.lb m) : n = m:=by
 have h1 : Lib.decDigits n = Lib.decDigits m:=by
  unfold Cb.lb Xc.lab at h
  exact List.append_cancel_left h
 have h2:=As.digits_dec n (by omega)
 rw [h1,As.digits_dec m (by omega)] at h2
 injection h2 with h2
 exact h2.symm
theorem Cb.j_text (n : Nat) : L6.lineText ⟨[],As.tJ,[Cb.lb n]⟩ = (Cb.I.j n).text ++ [10]:=by
 unfold L6.lineText L6.lineWords L6.marked
 rw [if_neg (show ¬ As.tJ = [] by decide)]
 simp [Lib.join,Lib.joinTail,Cb.I.text,Xc.lJ,As.tJ]
theorem Cb.at_text (n : Nat) : L6.lineText ⟨[Cb.lb n],[],[]⟩ = (Cb.I.at_ n).text ++ [10]:=by
 unfold L6.lineText L6.lineWords L6.marked
 rw [if_pos rfl]
 simp [Lib.join,Lib.joinTail,Cb.I.text]
structure Cb.I.Ok (x : Cb.I) : Prop where
 fix : ∀ i,x = .fix i → i < 19
 j : ∀ n,x = .j n → n < 1000
 at_ : ∀ n,x = .at_ n → n < 1000
theorem Cb.I.Ok.text {x : Cb.I} (h : x.Ok) : L6.lineText x.line = x.text ++ [10]:=by
 cases x with
 | fix i=>exact (Cb.fix_all ⟨i,h.fix i rfl⟩).1
 | j n=>exact Cb.j_text n
 | at_ n=>exact Cb.at_text n
theorem Cb.lb_head (n : Nat) : (Cb.lb n).headD 0 = 76:=rfl
theorem Cb.I.Ok.fits {x : Cb.I} (h : x.Ok) : Cb.fits x.line = true:=by
 cases x with
 | fix i=>exact (Cb.fix_all ⟨i,h.fix i rfl⟩).2.1
 | j n=>
  have hl:=Cb.lb_len (h.j n rfl)
  have hw:=Cb.lb_whole n
  have hr : L6.right ⟨[],As.tJ,[Cb.lb n]⟩ = true:=by
   unfold L6.right
   simp only [List.any_nil,List.any_cons,hw,Bool.not_true,Bool.or_false,Bool.false_or,Bool.not_false,Bool.true_and]
   rw [if_neg (show ¬ As.tJ = [] by decide)]
   exact (show (L6.whole As.tJ && (!L6.quoted As.tJ && !L6.label As.tJ)) = true by decide +kernel)
  have ht:=Cb.j_text n
  have hj : (Lib.join (L6.lineWords ⟨[],As.tJ,[Cb.lb n]⟩) [32]).length ≤ 256:=by
   have:=congrArg List.length ht
   unfold L6.lineText at this
   rw [List.length_append,List.length_append] at this
   have e : ((Cb.I.j n).text).length = 2 + (Cb.lb n).length:=by simp [Cb.I.text,Xc.lJ];omega
   omega
  show Cb.fits ⟨[],As.tJ,[Cb.lb n]⟩ = true
  unfold Cb.fits
  simp only [Bool.and_eq_true,decide_eq_true_eq]
  refine ⟨hr,hj,by decide,rfl,by simp,by simp,rfl,?_,by decide⟩
  simp only [List.all_cons,List.all_nil,Bool.and_true,decide_eq_true_eq]
  omega
 | at_ n=>
  have hl:=Cb.lb_len (h.at_ n rfl)
  have hw:=Cb.lb_whole n
  have hq : L6.quoted (Cb.lb n) = false:=rfl
  have hr : L6.right ⟨[Cb.lb n],[],[]⟩ = true:=by
   unfold L6.right
   simp only [List.any_nil,List.any_cons,hw,hq,Bool.not_true,Bool.or_false,Bool.false_or,Bool.not_false,Bool.true_and]
   rfl
  have ht:=Cb.at_text n
  have hj : (Lib.join (L6.lineWords ⟨[Cb.lb n],[],[]⟩) [32]).length ≤ 256:=by
   have:=congrArg List.length ht
   unfold L6.lineText at this
   rw [List.length_append,List.length_append] at this
   have e : ((Cb.I.at_ n).text).length = (Cb.lb n).length + 1:=by simp [Cb.I.text]
   omega
  show Cb.fits ⟨[Cb.lb n],[],[]⟩ = true
  unfold Cb.fits
  simp only [Bool.and_eq_true,decide_eq_true_eq]
  refine ⟨hr,hj,rfl,rfl,by simp,by simp,?_,rfl,by decide⟩
  simp only [List.all_cons,List.all_nil,Bool.and_true,decide_eq_true_eq]
  omega
theorem Cb.I.Ok.plainW {x : Cb.I} (h : x.Ok) : Cb.plainW x.line = true:=by
 cases x with
 | fix i=>exact (Cb.fix_all ⟨i,h.fix i rfl⟩).2.2
 | j n=>exact (show Cb.plainW ⟨[],As.tJ,[]⟩ = true by decide)
 | at_ n=>exact (show Cb.plainW ⟨[],[],[]⟩ = true by decide)
def Cb.pre : List L6.Line:=[⟨[],Im.tPart,[Cb.tV]⟩,⟨[],As.tLa,[Cb.rT0,Cb.tAmp]⟩,⟨[],Cb.tAddi,[Cb.rS0,Cb.rS0,[45,52]]⟩,⟨[],Cb.tSw,[Cb.rT0,[48],Cb.rS0]⟩,⟨[],As.tRet,[]⟩,⟨[Cb.tAmp],As.tWord,[[48]]⟩,
 ⟨[],Im.tDef,[Cb.tSeven,[48]]⟩,⟨[],As.tLi,[Cb.rT0,[55]]⟩,⟨[],Cb.tAddi,[Cb.rS0,Cb.rS0,[45,52]]⟩,⟨[],Cb.tSw,[Cb.rT0,[48],Cb.rS0]⟩,⟨[],As.tRet,[]⟩,
 ⟨[],Im.tDef,[Cb.tOne,[48]]⟩,⟨[],Cb.tAddi,[Cb.rSp,Cb.rSp,[45,52]]⟩,⟨[],Cb.tSw,[Cb.rRa,[48],Cb.rSp]⟩,⟨[],As.tCall,[Xc.label0 Cb.tV]⟩,⟨[],As.tCall,[Xc.label0 Cb.tSeven]⟩,⟨[],Cb.tLw,[Cb.rRa,[48],Cb.rSp]⟩,⟨[],Cb.tAddi,[Cb.rSp,Cb.rSp,[52]]⟩,⟨[],As.tRet,[]⟩,
 ⟨[],Im.tDef,[Cb.tTwo,[49]]⟩]
def Cb.body (T : Cb.T) : List Cb.I:=T.code ++ [.fix 7,.fix 8,.fix 9]
def Cb.lines (T : Cb.T) : List L6.Line:=Cb.pre ++ (Cb.body T).map Cb.I.line
theorem Cb.pre_text : Xc.text Cb.W3 ++ (Cb.fTwo ++ ((32 :: [49]) ++ [10])) = L6.text Cb.pre:=by decide +kernel
theorem Cb.dec1 : Lib.decDigits 1 = [49]:=by unfold Lib.decDigits;rfl
theorem Cb.body_text (l : List Cb.I) (h : ∀ x ∈ l,x.Ok) : L6.text (l.map Cb.I.line) = (l.map Cb.I.text).flatMap fun s=>s ++ [10]:=by
 induction l with
 | nil=>rfl
 | cons x r ih=>
  show L6.lineText x.line ++ L6.text (r.map Cb.I.line) = (x.text ++ [10]) ++ _
  rw [(h x (by simp)).text,ih fun y hy=>h y (by simp [hy])]
  rfl
theorem Cb.text_lines (T : Cb.T) (h : ∀ x ∈ Cb.body T,x.Ok) : Xc.text (Cb.W3 ++ [Cb.word Cb.fTwo T]) = L6.text (Cb.lines T):=by
 have e1 : Xc.text (Cb.W3 ++ [Cb.word Cb.fTwo T]) = Xc.text Cb.W3 ++ Xc.textW (Cb.word Cb.fTwo T):=by simp [Xc.text]
 have e2 : L6.text (Cb.lines T) = L6.text Cb.pre ++ L6.text ((Cb.body T).map Cb.I.line):=by simp [Cb.lines,L6.text]
 rw [e1,e2,← Cb.pre_text,Cb.body_text _ h]
 unfold Xc.textW Cb.word
 dsimp only
 rw [if_neg (by decide),if_pos (by decide),Cb.dec1]
 simp only [List.append_assoc]
 rfl
theorem Cb.pre_fits : Cb.pre.all Cb.fits = true:=by decide +kernel
theorem Cb.lines_fits (T : Cb.T) (h : ∀ x ∈ Cb.body T,x.Ok) : ∀ y ∈ Cb.lines T,Cb.fits y = true:=by
 intro y hy
 rcases List.mem_append.1 hy with hy | hy
 ·exact List.all_eq_true.1 Cb.pre_fits y hy
 ·obtain ⟨x,hx,rfl⟩:=List.mem_map.1 hy
  exact (h x hx).fits
theorem Cb.fits_of {y : L6.Line} (h : Cb.fits y = true) : (L6.right y = true ∧ (Lib.join (L6.lineWords y) [32]).length ≤ 256) ∧ Im.LineOk y:=by
 unfold Cb.fits at h
 simp only [Bool.and_eq_true,decide_eq_true_eq,Bool.not_eq_true',List.all_eq_true] at h
 obtain ⟨h1,h2,h3,h4,h5,h6,h7,h8,h9⟩:=h
 exact ⟨⟨h1,h2⟩,⟨h3,h4,h5,h6,h7,h8,h9⟩⟩
theorem Cb.parse (T : Cb.T) (h : ∀ x ∈ Cb.body T,x.Ok) (hl : (Cb.body T).length ≤ 1000) : L6.parse (Xc.text (Cb.W3 ++ [Cb.word Cb.fTwo T])) = (Cb.lines T,0,0):=by
 rw [Cb.text_lines T h]
 refine L6.parse_text (fun x hx=>(Cb.fits_of (Cb.lines_fits T h x hx)).1) ?_
 unfold Cb.lines
 rw [List.length_append,List.length_map]
 show 20 + _ ≤ _
 omega
def Cb.stOf : Im.R → Im.St
 | .ok S=>S
 | .bad _=>Im.start
def Cb.S0 : Im.St:=Cb.stOf (Im.run Im.start Cb.pre)
theorem Cb.run_pre : Im.run Im.start Cb.pre = .ok Cb.S0:=by kernel_rfl
theorem Cb.s0_opn : Cb.S0.opn = Xc.label0 Cb.tTwo:=by kernel_rfl
theorem Cb.s0_asks : Cb.S0.asks = []:=by kernel_rfl
theorem Cb.run_app : ∀ (A B : List L6.Line) (S S1 : Im.St),Im.run S A = .ok S1 → Im.run S (A ++ B) = Im.run S1 B
 | [],B,S,S1,h=>by cases h;rfl
 | x :: r,B,S,S1,h=>by
  rw [List.cons_append,Im.run]
  rw [Im.run] at h
  cases hx : Im.line x S with
  | bad e=>rw [hx] at h;cases h
  | ok S2=>
   rw [hx] at h
   exact Cb.run_app r B S2 S1 h
theorem Cb.line_put {x : L6.Line} (h : Cb.plainW x = true) (S : Im.St) : Im.line x S = .ok (Im.put x S):=by
 have h:=of_decide_eq_true h
 simp only [List.mem_cons,List.not_mem_nil,or_false,not_or] at h
 obtain ⟨h1,h2,h3,h4,h5⟩:=h
 unfold Im.line
 rw [if_neg h1,if_neg h2,if_neg h3,if_neg h4,if_neg h5]
theorem Cb.run_puts : ∀ (l : List L6.Line) (S : Im.St),(∀ x ∈ l,Cb.plainW x = true) → Im.run S l = .ok (Im.puts l S)
 | [],S,_=>by simp [Im.run,Im.puts]
 | x :: r,S,h=>by
  rw [Im.run,Cb.line_put (h x (by simp))]
  dsimp only
  rw [Cb.run_puts r _ fun y hy=>h y (by simp [hy])]
  unfold Im.puts Im.put
  simp
def Cb.endL : L6.Line:=⟨[Xc.label0 Cb.tTwo ++ [36]],[],[]⟩
def Cb.full (T : Cb.T) : List L6.Line:=Cb.S0.out ++ ((Cb.body T).map Cb.I.line ++ [Cb.endL])
theorem Cb.run_lines (T : Cb.T) (h : ∀ x ∈ Cb.body T,x.Ok) : ∃ S,Im.run Im.start (Cb.lines T) = .ok S ∧ Im.fill (Im.end_ S) = Cb.full T:=by
 refine ⟨Im.puts ((Cb.body T).map Cb.I.line) Cb.S0,?_,?_⟩
 ·unfold Cb.lines
  rw [Cb.run_app _ _ _ _ Cb.run_pre]
  refine Cb.run_puts _ _ fun y hy=>?_
  obtain ⟨x,hx,rfl⟩:=List.mem_map.1 hy
  exact (h x hx).plainW
 ·have ho : (Im.puts ((Cb.body T).map Cb.I.line) Cb.S0).opn = Xc.label0 Cb.tTwo:=Cb.s0_opn
  unfold Im.end_
  rw [if_neg (by rw [ho];decide),ho]
  unfold Im.fill Im.open_ Im.put Im.puts
  dsimp only
  rw [Cb.s0_asks]
  show (Cb.S0.out ++ (Cb.body T).map Cb.I.line) ++ [Cb.endL] = _
  rw [List.append_assoc]
  rfl
end Go.Proofs.YtpcpaoeajcjoiaaGreatDoor
namespace Go.Proofs.YtpcpaoeajcjoiaaGreatDoor
theorem Cb.mark_num (t : List UInt8) : L6.number (76 :: t) = (0,false):=by
 have hq : L6.quoted3 (76 :: t) = false:=by
  unfold L6.quoted3
  simp
 have hr : L6.rawV (76 :: t) = (0,false):=by
  have hd : L6.digitsV 10 (76 :: t) = (0,false):=by
   unfold L6.digitsV L6.digits
   rw [show L6.dig 76 = none by rfl]
  have hh : Lib.hasPrefix (76 :: t) [48,120] = false:=by simp [Lib.hasPrefix,List.isPrefixOf]
  have hm : Lib.hasPrefix (76 :: t) [45] = false:=by simp [Lib.hasPrefix,List.isPrefixOf]
  unfold L6.rawV
  rw [hh,hm,hd]
  simp
 unfold L6.number
 rw [hq,hr]
 simp
theorem Cb.mark_reg (t : List UInt8) : (L6.regV (76 :: t)).2 = false:=by
 unfold L6.regV
 rw [if_neg (by simp),if_neg (by simp),if_neg (by simp),if_neg (by simp),if_neg (by simp),if_neg (by simp)]
 have hr : ∀ n,L6.rowsV 76 n = (0,false):=fun n=>by
  unfold L6.rowsV
  simp
 cases h : (L6.countedV (76 :: t).tail).2
 ·rfl
 ·rw [List.headD_cons,hr];rfl
theorem Cb.mark_sym (t : List UInt8) : As.symbol (76 :: t) = true:=by
 unfold As.symbol
 rw [Cb.mark_num,Cb.mark_reg]
 simp
theorem Cb.j_pieces (n at_ : Nat) : As.pieces ⟨[],As.tJ,[Cb.lb n]⟩ at_ = some [⟨true,⟨2,0,0,0,0⟩,[],1,Cb.lb n,[]⟩]:=by
 have hl : Cb.lb n = 76 :: Lib.decDigits n:=rfl
 unfold As.pieces
 dsimp only
 rw [if_neg (show ¬ As.tJ = [] by decide)]
 unfold As.read
 rw [if_neg (show ¬ Is.isName ⟨As.tJ.toArray⟩ = true by decide +kernel)]
 unfold As.pseudo
 rw [if_neg (show ¬ As.tJ = As.tLi by decide),if_neg (show ¬ As.tJ = As.tLa by decide),if_neg (show ¬ As.tJ = As.tMv by decide),if_neg (show ¬ As.tJ = As.tNop by decide),if_neg (show ¬ As.tJ = As.tRet by decide),if_neg (show ¬ As.tJ = As.tCall by decide),if_pos rfl]
 dsimp only
 have h : As.either ⟨[Cb.lb n],true,[]⟩ = ((0,Cb.lb n),⟨[],true,[]⟩):=by
  unfold As.either
  dsimp only
  rw [hl,if_neg (by rw [Cb.mark_num];decide)]
  unfold As.name As.next As.sat
  dsimp only
  rw [Cb.mark_sym]
  rfl
 unfold As.to
 simp only [h]
 rw [if_neg (Cb.lb_ne n)]
 rfl
def Cb.KB : List (List UInt8):=[Xc.label0 Cb.tOne,Xc.label0 Cb.tV,Xc.label0 Cb.tSeven,Xc.label0 Cb.tTwo,Cb.tAmp]
theorem Cb.fix_pcs : ∀ i : Fin 19,(match As.pieces (Cb.fixL.getD i.val Cb.nul) 0 with
  | some p=>Cb.okL Cb.KB 0 p && (decide (As.size p % 4 = 0) && (decide (As.size p ≤ 8) && decide (4 ≤ As.size p)))
  | none=>false) = true:=by decide +kernel
theorem Cb.okQ_mono {K K' : List (List UInt8)} (hs : ∀ s ∈ K,s ∈ K') {p : As.P} (h : Cb.okQ K p = true) : Cb.okQ K' p = true:=by
 unfold Cb.okQ at h ⊢
 cases hc : p.code
 ·rw [hc,if_neg (by decide)] at h
  rw [if_neg (by decide)]
  simp only [Bool.or_eq_true,Bool.and_eq_true,decide_eq_true_eq] at h ⊢
  rcases h with h | ⟨hl,⟨hk,hn⟩ | ⟨hk,hn,hs2⟩⟩
  ·exact .inl h
  ·exact .inr ⟨hl,.inl ⟨hk,hs _ hn⟩⟩
  ·exact .inr ⟨hl,.inr ⟨hk,hs _ hn,hs _ hs2⟩⟩
 ·rw [hc,if_pos rfl] at h
  rw [if_pos rfl]
  obtain ⟨hb,h⟩:=Bool.and_eq_true_iff.1 h
  refine Bool.and_eq_true_iff.2 ⟨hb,?_⟩
  by_cases h0 : p.kind = 0
  ·rw [if_pos h0] at h ⊢;exact h
  ·rw [if_neg h0] at h ⊢
   obtain ⟨hn,h⟩:=Bool.and_eq_true_iff.1 h
   exact Bool.and_eq_true_iff.2 ⟨decide_eq_true (hs _ (of_decide_eq_true hn)),h⟩
theorem Cb.okL_mono {K K' : List (List UInt8)} (hs : ∀ s ∈ K,s ∈ K') {here here' : Nat} (hh : here % 4 = here' % 4) {ps : List As.P} (h : Cb.okL K here ps = true) : Cb.okL K' here' ps = true:=by
 unfold Cb.okL at h ⊢
 simp only [Bool.and_eq_true,List.all_eq_true] at h ⊢
 rw [hh] at h
 exact ⟨fun p hp=>Cb.okQ_mono hs (h.1 p hp),h.2⟩
theorem Cb.chk_mono {K K' : List (List UInt8)} (hs : ∀ s ∈ K,s ∈ K') : ∀ (L : List L6.Line) (here e : Nat),Cb.chk K here L = some e → Cb.chk K' here L = some e
 | [],here,e,h=>h
 | x :: r,here,e,h=>by
  obtain ⟨p,h1,h2,h3,h4,h5⟩:=Cb.chk_cons h
  rw [Cb.chk,h1]
  dsimp only
  rw [if_pos ⟨Cb.okL_mono hs rfl h3,h4⟩]
  exact Cb.chk_mono hs r _ e h5
theorem Cb.chk_app {K : List (List UInt8)} : ∀ (A B : List L6.Line) (here e : Nat),Cb.chk K here A = some e → Cb.chk K here (A ++ B) = Cb.chk K e B
 | [],B,here,e,h=>by cases h;rfl
 | x :: r,B,here,e,h=>by
  obtain ⟨p,h1,h2,h3,h4,h5⟩:=Cb.chk_cons h
  rw [List.cons_append,Cb.chk,h1]
  dsimp only
  rw [if_pos ⟨h3,h4⟩]
  exact Cb.chk_app r B _ e h5
def Cb.labsAt : Nat → List L6.Line → List (List UInt8 × Nat)
 | _,[]=>[]
 | here,x :: r=>x.labels.map (fun s=>(s,here)) ++ Cb.labsAt (here + Cb.szAt x here) r
theorem Cb.labsAt_app {K : List (List UInt8)} : ∀ (A B : List L6.Line) (here e : Nat),Cb.chk K here A = some e → Cb.labsAt here (A ++ B) = Cb.labsAt here A ++ Cb.labsAt e B
 | [],B,here,e,h=>by cases h;rfl
 | x :: r,B,here,e,h=>by
  obtain ⟨p,h1,h2,h3,h4,h5⟩:=Cb.chk_cons h
  rw [List.cons_append,Cb.labsAt,Cb.labsAt,h2,Cb.labsAt_app r B _ e h5,List.append_assoc]
theorem Cb.syms_dress (a : Nat) : ∀ (L : List L6.Line) (here : Nat),As.symsAt a here (Cb.dress here L) = (Cb.labsAt here L).map fun p=>(p.1,As.at32 (a + p.2))
 | [],_=>rfl
 | x :: r,here=>by
  rw [Cb.dress,As.symsAt,Cb.labsAt,List.length_replicate,Cb.syms_dress a r,List.map_append,List.map_map]
  rfl
def Cb.fixes : List Cb.I → Nat
 | []=>0
 | .fix _ :: r=>Cb.fixes r + 1
 | _ :: r=>Cb.fixes r
theorem Cb.fixes_app : ∀ a b : List Cb.I,Cb.fixes (a ++ b) = Cb.fixes a + Cb.fixes b
 | [],b=>by simp [Cb.fixes]
 | .fix _ :: r,b=>by show Cb.fixes (r ++ b) + 1 = Cb.fixes r + 1 + _;rw [Cb.fixes_app r b];omega
 | .j _ :: r,b=>Cb.fixes_app r b
 | .at_ _ :: r,b=>Cb.fixes_app r b
def Cb.isFix : Cb.I → Nat
 | .fix _=>1
 | _=>0
theorem Cb.fixes_cons (x : Cb.I) (r : List Cb.I) : Cb.fixes (x :: r) = Cb.isFix x + Cb.fixes r:=by
 cases x <;> simp [Cb.fixes,Cb.isFix]
 omega
theorem Cb.I.step {K : List (List UInt8)} (hB : ∀ s ∈ Cb.KB,s ∈ K) {x : Cb.I} (h : x.Ok) (hj : ∀ n,x = .j n → Cb.lb n ∈ K) (here : Nat) (hh : here % 4 = 0) :
  ∃ p,As.pieces x.line here = some p ∧ Cb.okL K here p = true ∧ As.size p % 4 = 0 ∧ As.size p ≤ 8 ∧ 4 * Cb.isFix x ≤ As.size p:=by
 cases x with
 | fix i=>
  have hi:=h.fix i rfl
  have hc:=Cb.fix_pcs ⟨i,hi⟩
  dsimp only at hc
  have hm:=As.pieces_mod (Cb.fixL.getD i Cb.nul) (show here % 4 = 0 % 4 by omega)
  cases hp : As.pieces (Cb.fixL.getD i Cb.nul) 0 with
  | none=>rw [hp] at hc;cases hc
  | some p=>
   rw [hp] at hc hm
   simp only [Bool.and_eq_true,decide_eq_true_eq] at hc
   exact ⟨p,hm,Cb.okL_mono hB (by omega) hc.1,hc.2.1,hc.2.2.1,hc.2.2.2⟩
 | j n=>
  refine ⟨_,Cb.j_pieces n here,?_,by simp [As.size,As.size1],by simp [As.size,As.size1],by simp [Cb.isFix,As.size,As.size1]⟩
  have hn:=hj n rfl
  unfold Cb.okL Cb.okQ
  simp [hn,hh,As.lead]
 | at_ n=>exact ⟨[],Im.pieces_mark _ _,rfl,rfl,by decide,by simp [Cb.isFix]⟩
theorem Cb.code_chk {K : List (List UInt8)} (hB : ∀ s ∈ Cb.KB,s ∈ K) : ∀ (l : List Cb.I) (here : Nat),here % 4 = 0 → (∀ x ∈ l,x.Ok) → (∀ n ∈ Cb.refs l,Cb.lb n ∈ K) → here + 8 * l.length ≤ 100000 →
  ∃ e,Cb.chk K here (l.map Cb.I.line) = some e ∧ e % 4 = 0 ∧ here + 4 * Cb.fixes l ≤ e ∧ e ≤ here + 8 * l.length ∧ (Cb.labsAt here (l.map Cb.I.line)).map (fun p=>p.1) = (Cb.labs l).map Cb.lb ∧ ∀ p ∈ Cb.labsAt here (l.map Cb.I.line),p.2 % 4 = 0 ∧ p.2 ≤ here + 8 * l.length
 | [],here,hh,_,_,hl=>⟨here,rfl,hh,Nat.le_refl _,Nat.le_refl _,rfl,fun p hp=>by cases hp⟩
 | x :: r,here,hh,hx,hr,hl=>by
  rw [List.length_cons] at hl ⊢
  have hr1 : ∀ n ∈ Cb.refs r,Cb.lb n ∈ K:=fun n hn=>hr n (by cases x <;> simp [Cb.refs,hn])
  have hr2 : ∀ n,x = .j n → Cb.lb n ∈ K:=fun n e=>hr n (by subst e;simp [Cb.refs])
  obtain ⟨p,p1,p2,p3,p4,p5⟩:=Cb.I.step hB (hx x (by simp)) hr2 here hh
  have hz : Cb.szAt x.line here = As.size p:=by unfold Cb.szAt;rw [p1];rfl
  obtain ⟨e,e1,e2,e3,e4,e5,e6⟩:=Cb.code_chk hB r (here + As.size p) (by omega) (fun y hy=>hx y (by simp [hy])) hr1 (by omega)
  refine ⟨e,?_,e2,by rw [Cb.fixes_cons];omega,by omega,?_,?_⟩
  ·rw [List.map_cons,Cb.chk,p1]
   dsimp only
   rw [if_pos ⟨p2,by omega⟩]
   exact e1
  ·rw [List.map_cons,Cb.labsAt,hz,List.map_append,e5]
   have h : ∀ i : Fin 19,(Cb.fixL.getD i.val Cb.nul).labels = []:=by decide +kernel
   cases x with
   | fix i=>
    have hi:=(hx (.fix i) (by simp)).fix i rfl
    show ((Cb.fixL.getD i Cb.nul).labels.map _).map _ ++ _ = _
    rw [h ⟨i,hi⟩]
    rfl
   | j n=>rfl
   | at_ n=>rfl
  ·intro q hq
   rw [List.map_cons,Cb.labsAt,hz] at hq
   rcases List.mem_append.1 hq with hq | hq
   ·obtain ⟨s,_,rfl⟩:=List.mem_map.1 hq
    exact ⟨hh,by show here ≤ _;omega⟩
   ·have:=e6 q hq
    exact ⟨this.1,by omega⟩
theorem Cb.op_pre {T T' : Cb.T} (i : Nat) (h : Cb.op i T = some T') : ∃ m,T'.code = T.code ++ m:=by
 obtain ⟨opens,made,code⟩:=T
 unfold Cb.op at h
 dsimp only at h
 split at h
 all_goals (repeat' (split at h))
 all_goals first
  | (cases h;done)
  | (cases h;exact ⟨_,rfl⟩)
theorem Cb.run_more : ∀ (l : List Nat) {T T' : Cb.T},Cb.run l T = some T' → ∃ m,T'.code = T.code ++ m
 | [],T,T',h=>by cases h;exact ⟨[],by simp⟩
 | i :: r,T,T',h=>by
  unfold Cb.run at h
  split at h
  ·rename_i T1 h1
   obtain ⟨m,hm⟩:=Cb.op_pre i h1
   obtain ⟨m2,hm2⟩:=Cb.run_more r h
   exact ⟨m ++ m2,by rw [hm2,hm,List.append_assoc]⟩
  ·cases h
end Go.Proofs.YtpcpaoeajcjoiaaGreatDoor
namespace Go.Proofs.YtpcpaoeajcjoiaaGreatDoor
def Cb.pl : List (List UInt8 × Nat):=Cb.labsAt 0 Cb.S0.out
def Cb.tEnd : List UInt8:=Xc.label0 Cb.tTwo ++ [36]
def Cb.K0 : List (List UInt8):=Cb.pl.map (fun p=>p.1) ++ [Cb.tEnd]
theorem Cb.pre_chk : Cb.chk Cb.K0 0 Cb.S0.out = some 144:=by decide +kernel
theorem Cb.pl_facts : (Cb.pl.all fun p=>decide (p.2 % 4 = 0) && (decide (p.2 ≤ 144) && (decide (p.1.headD 0 ≠ 76) && decide (p.1 ≠ Cb.tEnd)))) = true:=by decide +kernel
theorem Cb.pl_nodup : (Cb.pl.map (fun p=>p.1)).Nodup:=by decide +kernel
theorem Cb.pl_has : (Xc.label0 Cb.tOne,92) ∈ Cb.pl ∧ (Xc.label0 Cb.tTwo,144) ∈ Cb.pl ∧ Cb.pl.length ≤ 20 ∧ Cb.S0.out.length ≤ 60:=by decide +kernel
theorem Cb.kb_sub : ∀ s ∈ Cb.KB,s ∈ Cb.K0:=by decide +kernel
def Cb.lineOkB (x : L6.Line) : Bool:=decide (F8.kind x.word = none) && (!x.labels.any F8.made && (decide (x.labels.length ≤ 1) && (decide (x.args.length ≤ 40) &&
 (x.labels.all (fun s=>decide (s.length ≤ 40)) && (x.args.all (fun s=>decide (s.length ≤ 40)) && decide (x.word.length ≤ 10))))))
theorem Cb.pre_ok : (Cb.S0.out ++ [Cb.endL]).all Cb.lineOkB = true:=by decide +kernel
theorem Cb.lineOk_of {y : L6.Line} (h : Cb.lineOkB y = true) : Im.LineOk y:=by
 unfold Cb.lineOkB at h
 simp only [Bool.and_eq_true,decide_eq_true_eq,Bool.not_eq_true',List.all_eq_true] at h
 obtain ⟨h3,h4,h5,h6,h7,h8,h9⟩:=h
 exact ⟨h3,h4,h5,h6,h7,h8,h9⟩
theorem Cb.mem_refs {n : Nat} : ∀ {l : List Cb.I},Cb.I.j n ∈ l → n ∈ Cb.refs l
 | x :: r,h=>by
  rcases List.mem_cons.1 h with rfl | h
  ·exact List.mem_cons_self
  ·have:=Cb.mem_refs h
   cases x <;> simp [Cb.refs,this]
theorem Cb.mem_labs {n : Nat} : ∀ {l : List Cb.I},Cb.I.at_ n ∈ l → n ∈ Cb.labs l
 | x :: r,h=>by
  rcases List.mem_cons.1 h with rfl | h
  ·exact List.mem_cons_self
  ·have:=Cb.mem_labs h
   cases x <;> simp [Cb.labs,this]
structure Cb.Made (T : Cb.T) : Prop where
 ok : ∀ x ∈ Cb.body T,x.Ok
 refs : ∀ n ∈ Cb.refs (Cb.body T),n ∈ Cb.labs (Cb.body T)
 once : (Cb.labs (Cb.body T)).Nodup
 lt : ∀ n ∈ Cb.labs (Cb.body T),n < 1000
 len : (Cb.body T).length ≤ 165
 fixes : 5 ≤ Cb.fixes (Cb.body T)
theorem Cb.made {l : List Nat} {T : Cb.T} (hl : l.length ≤ 40) (ho : Cb.out l = some T) : Cb.Made T:=by
 unfold Cb.out at ho
 obtain ⟨T1,hr,h2⟩:=Option.bind_eq_some_iff.1 ho
 split at h2
 ·rename_i hop
  injection h2 with h2
  subst h2
  obtain ⟨hk,hcl,hm⟩:=Cb.run_ok l Cb.ok0 hr
  obtain ⟨m,hm2⟩:=Cb.run_more l hr
  have hc0 : Cb.T0.code.length = 2:=rfl
  have hm0 : Cb.T0.made = 0:=rfl
  have hpe : Cb.pend T1.opens = []:=by rw [hop];rfl
  have e1 : Cb.labs (Cb.body T1) = Cb.labs T1.code:=by unfold Cb.body;rw [Cb.labs_app];simp [Cb.labs]
  have e2 : Cb.refs (Cb.body T1) = Cb.refs T1.code:=by unfold Cb.body;rw [Cb.refs_app];simp [Cb.refs]
  have hrf : ∀ n ∈ Cb.refs T1.code,n ∈ Cb.labs T1.code:=fun n hn=>by
   rcases hk.refs n hn with h | h
   ·exact h
   ·rw [hpe] at h;cases h
  have hlt : ∀ n ∈ Cb.labs T1.code,n < 1000:=fun n hn=>by
   have:=hk.lt n (List.mem_append_left _ hn)
   omega
  refine ⟨fun x hx=>⟨fun i e=>?_,fun n e=>?_,fun n e=>?_⟩,?_,?_,?_,?_,?_⟩
  ·subst e
   rcases List.mem_append.1 hx with h | h
   ·exact hk.fix i h
   ·simp at h
    omega
  ·subst e
   rcases List.mem_append.1 hx with h | h
   ·exact hlt n (hrf n (Cb.mem_refs h))
   ·simp at h
  ·subst e
   rcases List.mem_append.1 hx with h | h
   ·exact hlt n (Cb.mem_labs h)
   ·simp at h
  ·rw [e1,e2];exact hrf
  ·rw [e1]
   have:=hk.once
   rw [hpe,List.append_nil] at this
   exact this
  ·rw [e1];exact hlt
  ·unfold Cb.body
   rw [List.length_append]
   show _ + 3 ≤ 165
   omega
  ·unfold Cb.body
   rw [Cb.fixes_app,hm2,Cb.fixes_app]
   show 5 ≤ 2 + Cb.fixes m + 3
   omega
 ·cases h2
theorem Cb.map_nodup {l : List Nat} (h : l.Nodup) (hl : ∀ n ∈ l,n < 1000) : (l.map Cb.lb).Nodup:=by
 induction l with
 | nil=>exact List.nodup_nil
 | cons n r ih=>
  obtain ⟨h1,h2⟩:=List.nodup_cons.1 h
  rw [List.map_cons,List.nodup_cons]
  refine ⟨fun hm=>?_,ih h2 fun m hm=>hl m (by simp [hm])⟩
  obtain ⟨m,hm1,hm2⟩:=List.mem_map.1 hm
  have:=Cb.lb_inj (hl m (by simp [hm1])) (hl n (by simp)) hm2
  subst this
  exact h1 hm1
theorem Cb.place {T : Cb.T} (h : Cb.Made T) (a : Nat) (ha : a % 4 = 0) (ha2 : a ≤ 16384) : ∃ o sy e,As.assemble (Cb.full T) a = ⟨o,sy,0,0⟩ ∧ As.look sy (Xc.label0 Cb.tOne) = some (a + 92) ∧ As.look sy (Xc.label0 Cb.tTwo) = some (a + 144) ∧ As.look sy Cb.tEnd = some (a + e) ∧ 164 ≤ e ∧ e ≤ 2000 ∧ sy.length ≤ 5000:=by
 obtain ⟨K,hK⟩ : ∃ K,Cb.pl.map (fun p=>p.1) ++ ((Cb.labs (Cb.body T)).map Cb.lb ++ [Cb.tEnd]) = K:=⟨_,rfl⟩
 have hk0 : ∀ s ∈ Cb.K0,s ∈ K:=fun s hs=>by
  rw [← hK]
  rcases List.mem_append.1 hs with hs | hs
  ·exact List.mem_append_left _ hs
  ·exact List.mem_append_right _ (List.mem_append_right _ hs)
 have hkb : ∀ s ∈ Cb.KB,s ∈ K:=fun s hs=>hk0 s (Cb.kb_sub s hs)
 have c1:=Cb.chk_mono hk0 _ _ _ Cb.pre_chk
 obtain ⟨e,c2,c3,c4,c5,c6,c7⟩:=Cb.code_chk (K:=K) hkb (Cb.body T) 144 (by decide) h.ok (fun n hn=>by
  rw [← hK]
  exact List.mem_append_right _ (List.mem_append_left _ (List.mem_map.2 ⟨n,h.refs n hn,rfl⟩))) (by have:=h.len;omega)
 have hlen:=h.len
 have hfx:=h.fixes
 have c8 : Cb.chk K e [Cb.endL] = some e:=by
  rw [Cb.chk,show As.pieces Cb.endL e = some [] from Im.pieces_mark _ _]
  dsimp only
  rw [if_pos ⟨rfl,show e + As.size [] ≤ 100000 by show e + 0 ≤ _;omega⟩]
  rfl
 have c9 : Cb.chk K 0 (Cb.full T) = some e:=by
  unfold Cb.full
  rw [Cb.chk_app _ _ _ _ c1,Cb.chk_app _ _ _ _ c2,c8]
 have d1 : Cb.labsAt 0 (Cb.full T) = Cb.pl ++ (Cb.labsAt 144 ((Cb.body T).map Cb.I.line) ++ [(Cb.tEnd,e)]):=by
  unfold Cb.full
  rw [Cb.labsAt_app _ _ _ _ c1,Cb.labsAt_app _ _ _ _ c2]
  rfl
 have d2:=Cb.syms_dress a (Cb.full T) 0
 have d3 : As.keys (As.symsAt a 0 (Cb.dress 0 (Cb.full T))) = K:=by
  unfold As.keys
  rw [d2,List.map_map,d1,List.map_append,List.map_append,← hK]
  have : ((fun p : List UInt8 × Nat=>p.1) ∘ fun p : List UInt8 × Nat=>(p.1,As.at32 (a + p.2))) = fun p=>p.1:=rfl
  rw [this,c6]
  rfl
 have d4 : ∀ p ∈ Cb.labsAt 0 (Cb.full T),p.2 % 4 = 0 ∧ p.2 ≤ 2000:=fun p hp=>by
  rw [d1] at hp
  rcases List.mem_append.1 hp with hp | hp
  ·have:=List.all_eq_true.1 Cb.pl_facts p hp
   simp only [Bool.and_eq_true,decide_eq_true_eq] at this
   exact ⟨this.1,by omega⟩
  ·rcases List.mem_append.1 hp with hp | hp
   ·have:=c7 p hp
    exact ⟨this.1,by omega⟩
   ·rw [List.mem_singleton.1 hp]
    exact ⟨c3,by show e ≤ _;omega⟩
 have hno : K.Nodup:=by
  rw [← hK]
  refine List.nodup_append.2 ⟨Cb.pl_nodup,List.nodup_append.2 ⟨Cb.map_nodup h.once h.lt,by simp,?_⟩,?_⟩
  ·intro x hx y hy e2
   subst e2
   obtain ⟨n,_,rfl⟩:=List.mem_map.1 hx
   have:=List.mem_singleton.1 hy
   have h2:=congrArg (fun l=>l.headD 0) this
   exact absurd h2 (show ¬ (Cb.lb n).headD 0 = Cb.tEnd.headD 0 from by rw [Cb.lb_head];decide)
  ·intro x hx y hy e2
   subst e2
   obtain ⟨p,hp,rfl⟩:=List.mem_map.1 hx
   have hf:=List.all_eq_true.1 Cb.pl_facts p hp
   simp only [Bool.and_eq_true,decide_eq_true_eq] at hf
   rcases List.mem_append.1 hy with hy | hy
   ·obtain ⟨n,_,he⟩:=List.mem_map.1 hy
    exact hf.2.2.1 (by rw [← he];exact Cb.lb_head n)
   ·exact hf.2.2.2 (List.mem_singleton.1 hy)
 have hlk : ∀ p ∈ Cb.labsAt 0 (Cb.full T),As.look (As.symsAt a 0 (Cb.dress 0 (Cb.full T))) p.1 = some (a + p.2):=fun p hp=>by
  refine As.look_of (by rw [d3];exact hno) ?_
  rw [d2]
  refine List.mem_map.2 ⟨p,hp,?_⟩
  have:=d4 p hp
  have e3 : As.at32 (a + p.2) = a + p.2:=by unfold As.at32;omega
  rw [e3]
 have hkn : Cb.Known (As.symsAt a 0 (Cb.dress 0 (Cb.full T))) a K:=fun s hs=>by
  rw [← d3] at hs
  unfold As.keys at hs
  rw [d2,List.map_map] at hs
  obtain ⟨p,hp,rfl⟩:=List.mem_map.1 hs
  have:=d4 p hp
  exact ⟨a + p.2,hlk p hp,by omega,by omega,by omega⟩
 have hll : (Cb.full T).length ≤ 32768:=by
  unfold Cb.full
  rw [List.length_append,List.length_append,List.length_map]
  have:=Cb.pl_has.2.2.2
  show _ + (_ + 1) ≤ _
  omega
 obtain ⟨o,ho⟩:=Cb.assemble_fit ha ha2 hll c9 (by rw [d3];exact hno) hkn
 refine ⟨o,_,e,ho,?_,?_,?_,by omega,by omega,?_⟩
 ·exact hlk (Xc.label0 Cb.tOne,92) (by rw [d1];exact List.mem_append_left _ Cb.pl_has.1)
 ·exact hlk (Xc.label0 Cb.tTwo,144) (by rw [d1];exact List.mem_append_left _ Cb.pl_has.2.1)
 ·exact hlk (Cb.tEnd,e) (by rw [d1];exact List.mem_append_right _ (List.mem_append_right _ (by simp)))
 ·rw [d2,List.length_map,d1,List.length_append,List.length_append]
  have h1:=congrArg List.length c6
  rw [List.length_map,List.length_map] at h1
  have h2 : (Cb.labs (Cb.body T)).length ≤ 1000:=by
   have hx : ∀ l : List Cb.I,(Cb.labs l).length ≤ l.length:=fun l=>by
    induction l with
    | nil=>exact Nat.le_refl _
    | cons x r ih=>cases x <;> simp [Cb.labs] <;> omega
   have:=hx (Cb.body T)
   omega
  have:=Cb.pl_has.2.2.1
  show _ + (_ + 1) ≤ _
  omega
theorem Cb.full_ok {T : Cb.T} (h : Cb.Made T) : ∀ x ∈ Cb.full T,Im.LineOk x:=by
 intro x hx
 unfold Cb.full at hx
 rcases List.mem_append.1 hx with hx | hx
 ·exact Cb.lineOk_of (List.all_eq_true.1 Cb.pre_ok x (List.mem_append_left _ hx))
 ·rcases List.mem_append.1 hx with hx | hx
  ·obtain ⟨y,hy,rfl⟩:=List.mem_map.1 hx
   exact (Cb.fits_of (h.ok y hy).fits).2
  ·exact Cb.lineOk_of (List.all_eq_true.1 Cb.pre_ok x (List.mem_append_right _ hx))
end Go.Proofs.YtpcpaoeajcjoiaaGreatDoor
