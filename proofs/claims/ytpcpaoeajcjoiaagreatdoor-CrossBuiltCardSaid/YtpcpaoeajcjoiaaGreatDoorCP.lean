/- Texts joined, what is not reached left out. -/
import Derived.Test.YtpcpaoeajcjoiaaGreatDoorKU
import Derived.Test.YtpcpaoeajcjoiaaGreatDoorNP
set_option linter.unusedVariables false
set_option linter.unusedSimpArgs false
namespace Go.Proofs.YtpcpaoeajcjoiaaGreatDoor
def Xc.tColon : List UInt8:=[58]
def Xc.tColons : List UInt8:=[58,58]
def Xc.tVar : List UInt8:=[86,65,82,73,65,66,76,69]
def Xc.tVars : List UInt8:=[58,58,86,65,82,73,65,66,76,69]
def Xc.tCon : List UInt8:=[67,79,78,83,84,65,78,84]
def Xc.tCons : List UInt8:=[58,58,67,79,78,83,84,65,78,84]
def Xc.tImm : List UInt8:=[73,77,77,69,68,73,65,84,69]
def Xc.tInl : List UInt8:=[73,78,76,73,78,69]
def Xc.tNot : List UInt8:=[78,79,84,65,73,76]
def Xc.tBegin : List UInt8:=[66,69,71,73,78]
def Xc.tWhile : List UInt8:=[87,72,73,76,69]
def Xc.tIf : List UInt8:=[73,70]
def Xc.tElse : List UInt8:=[69,76,83,69]
def Xc.tThen : List UInt8:=[84,72,69,78]
def Xc.tAgain : List UInt8:=[65,71,65,73,78]
def Xc.tUntil : List UInt8:=[85,78,84,73,76]
def Xc.tRepeat : List UInt8:=[82,69,80,69,65,84]
def Xc.tSemi : List UInt8:=[59]
def Xc.tExit : List UInt8:=[69,88,73,84]
def Xc.tRec : List UInt8:=[82,69,67,85,82,83,69]
def Xc.tText : List UInt8:=[83,34]
def Xc.tTick : List UInt8:=[91,39,93]
def Xc.tChar : List UInt8:=[91,67,72,65,82,93]
def Xc.tNote : List UInt8:=[92]
def Xc.tOpen : List UInt8:=[40]
def Xc.tAsm : List UInt8:=[65,83,77]
def Xc.lAddi : List UInt8:=[97,100,100,105,32,115,48,32,115,48,32,45,52]
def Xc.lSw : List UInt8:=[115,119,32,116,48,32,48,32,115,48]
def Xc.lLw : List UInt8:=[108,119,32,116,48,32,48,32,115,48]
def Xc.lPop : List UInt8:=[97,100,100,105,32,115,48,32,115,48,32,52]
def Xc.lBnez : List UInt8:=[98,110,101,122,32,116,48,32,56]
def Xc.lJ : List UInt8:=[106,32]
def Xc.lRa : List UInt8:=[108,119,32,114,97,32,48,32,115,112]
def Xc.lSp : List UInt8:=[97,100,100,105,32,115,112,32,115,112,32,52]
def Xc.lRet : List UInt8:=[114,101,116]
def Xc.lDown : List UInt8:=[97,100,100,105,32,115,112,32,115,112,32,45,52]
def Xc.lSave : List UInt8:=[115,119,32,114,97,32,48,32,115,112]
def Xc.lLa : List UInt8:=[108,97,32,116,48,32]
def Xc.lLaA : List UInt8:=[108,97,32,116,48,32,38]
def Xc.lLi : List UInt8:=[108,105,32,116,48,32]
def Xc.lWord : List UInt8:=[58,32,119,111,114,100,32,48]
def Xc.lCall : List UInt8:=[99,97,108,108,32]
def Xc.lDef : List UInt8:=[100,101,102,32]
def Xc.lPart : List UInt8:=[112,97,114,116,32]
def Xc.lZero : List UInt8:=[61,48]
structure Xc.W where
 first : List UInt8
 flags : Nat
 lines : List (List UInt8)
structure Xc.S where
 s : List UInt8
 words : List Xc.W
 within : Bool
 name : List UInt8
 opens : List (List UInt8 × List UInt8)
 made : Nat
 number : List UInt8
inductive Xc.R where
 | bad (e : Nat)
 | ok (S : Xc.S)
 | stuck
def Xc.gap (c : UInt8) : Bool:=decide (c.toNat ≤ 32)
def Xc.skip (s : List UInt8) : List UInt8:=s.dropWhile Xc.gap
def Xc.word (s : List UInt8) : List UInt8:=(Xc.skip s).takeWhile fun c=>!Xc.gap c
def Xc.rest (s : List UInt8) : List UInt8:=(Xc.skip s).dropWhile fun c=>!Xc.gap c
def Xc.upTo (c : UInt8) (s : List UInt8) : List UInt8:=(s.dropWhile fun x=>x != c).drop 1
def Xc.upd (f : Xc.W → Xc.W) : List Xc.W → List Xc.W
 | []=>[]
 | [w]=>[f w]
 | w :: x :: t=>w :: Xc.upd f (x :: t)
def Xc.add (ls : List (List UInt8)) (w : Xc.W) : Xc.W:=⟨w.first,w.flags,w.lines ++ ls⟩
def Xc.put (ls : List (List UInt8)) (S : Xc.S) : Xc.S:=⟨S.s,Xc.upd (Xc.add ls) S.words,S.within,S.name,S.opens,S.made,S.number⟩
def Xc.push (how : List UInt8) (S : Xc.S) : Xc.S:=Xc.put [how,Xc.lAddi,Xc.lSw] S
def Xc.unless (k : List UInt8) (S : Xc.S) : Xc.S:=Xc.put [Xc.lLw,Xc.lPop,Xc.lBnez,Xc.lJ ++ k] S
def Xc.leave (S : Xc.S) : Xc.S:=Xc.put [Xc.lRa,Xc.lSp,Xc.lRet] S
def Xc.here (k : List UInt8) (S : Xc.S) : Xc.S:=Xc.put [k ++ [58]] S
def Xc.lab (tag : List UInt8) (n : Nat) : List UInt8:=tag ++ Lib.decDigits n
def Xc.more (S : Xc.S) : Xc.S:=⟨S.s,S.words,S.within,S.name,S.opens,S.made + 1,S.number⟩
def Xc.wait (kind k : List UInt8) (S : Xc.S) : Xc.S:=⟨S.s,S.words,S.within,S.name,(kind,k) :: S.opens,S.made,S.number⟩
def Xc.atRest (s : List UInt8) (S : Xc.S) : Xc.S:=⟨s,S.words,S.within,S.name,S.opens,S.made,S.number⟩
def Xc.shut (l : List (List UInt8 × List UInt8)) (S : Xc.S) : Xc.S:=⟨S.s,S.words,S.within,S.name,l,S.made,S.number⟩
def Xc.inIt (b : Bool) (S : Xc.S) : Xc.S:=⟨S.s,S.words,b,S.name,S.opens,S.made,S.number⟩
def Xc.num (n : List UInt8) (S : Xc.S) : Xc.S:=⟨S.s,S.words,S.within,S.name,S.opens,S.made,n⟩
def Xc.named (S : Xc.S) : Xc.S:=⟨Xc.rest S.s,S.words,S.within,Xc.word S.s,S.opens,S.made,S.number⟩
def Xc.addW (f : List UInt8) (S : Xc.S) : Xc.S:=⟨S.s,S.words ++ [⟨f,0,[]⟩],S.within,S.name,S.opens,S.made,S.number⟩
def Xc.close (kinds : List (List UInt8)) (S : Xc.S) : Option (List UInt8 × Xc.S):=
 match S.opens with
 | []=>none
 | (w,k) :: r=>if w ∈ kinds then some (k,Xc.shut r S) else none
def Xc.label0 (n : List UInt8) : List UInt8:=Xc.lZero ++ n
def Xc.begin (w : List UInt8) (S : Xc.S) : Xc.R:=
 if Xc.word S.s = [] then .bad 40
 else if Nm.right (Xc.word S.s) = false then .bad 41
 else .ok (Xc.addW ((if Lib.hasPrefix w Xc.tColons then Xc.lPart else Xc.lDef) ++ Xc.word S.s) (Xc.named S))
def Xc.flagW (n : Nat) (w : Xc.W) : Xc.W:=⟨w.first,w.flags ||| n,w.lines⟩
def Xc.flag (n : Nat) (S : Xc.S) : Xc.R:=
 match S.words.getLast? with
 | none=>.bad 40
 | some w=>if w.first = [] then .bad 40 else .ok ⟨S.s,Xc.upd (Xc.flagW n) S.words,S.within,S.name,S.opens,S.made,S.number⟩
def Xc.makes (w : List UInt8) : Option (List UInt8):=
 if w = Xc.tColon ∨ w = Xc.tColons then some Xc.tColon
 else if w = Xc.tVar ∨ w = Xc.tVars then some Xc.tVar
 else if w = Xc.tCon ∨ w = Xc.tCons then some Xc.tCon
 else none
def Xc.made_ (kind number : List UInt8) (S : Xc.S) : Xc.S:=
 if kind = Xc.tColon then Xc.put [Xc.lDown,Xc.lSave] (Xc.inIt true S)
 else if kind = Xc.tVar then Xc.put [Xc.lRet,38 :: (S.name ++ Xc.lWord)] (Xc.push (Xc.lLaA ++ S.name) S)
 else Xc.put [Xc.lRet] (Xc.push (Xc.lLi ++ number) S)
def Xc.make (w kind number : List UInt8) (S : Xc.S) : Xc.R:=
 if decide (kind = Xc.tCon) != (!number.isEmpty) then .bad 40
 else match Xc.begin w S with
  | .ok S1=>.ok (Xc.made_ kind number S1)
  | r=>r
def Xc.top (w : List UInt8) (S : Xc.S) : Xc.R:=
 match Xc.makes w with
 | some kind=>Xc.make w kind S.number (Xc.num [] S)
 | none=>
  if S.number ≠ [] then .bad 40
  else if w = Xc.tImm then Xc.flag 1 (Xc.num [] S)
  else if w = Xc.tInl then Xc.flag 2 (Xc.num [] S)
  else if w = Xc.tNot then Xc.flag 4 (Xc.num [] S)
  else if (L6.number w).2 = false then .bad 40
  else .ok (Xc.num w S)
def Xc.begins (tag w : List UInt8) (S : Xc.S) : Option Xc.R:=
 if w = Xc.tBegin then some (.ok (Xc.wait w (Xc.lab tag S.made) (Xc.here (Xc.lab tag S.made) (Xc.more S))))
 else if w = Xc.tWhile ∧ (S.opens.head?.map fun p=>p.1) ≠ some Xc.tBegin then some (.bad 44)
 else if w = Xc.tWhile ∨ w = Xc.tIf then some (.ok (Xc.wait w (Xc.lab tag S.made) (Xc.unless (Xc.lab tag S.made) (Xc.more S))))
 else none
def Xc.back (S : Xc.S) : List UInt8 × Xc.S:=match Xc.close [Xc.tBegin] S with | none=>([],S) | some p=>p
def Xc.ends (tag w : List UInt8) (S : Xc.S) : Option (Option Xc.S):=
 if w = Xc.tElse then some (match Xc.close [Xc.tIf] S with
  | none=>none
  | some (k,S1)=>some (Xc.wait w (Xc.lab tag S1.made) (Xc.put [Xc.lJ ++ Xc.lab tag S1.made,k ++ [58]] (Xc.more S1))))
 else if w = Xc.tThen then some (match Xc.close [Xc.tIf,Xc.tElse] S with
  | none=>none
  | some (k,S1)=>some (Xc.here k S1))
 else if w = Xc.tAgain then some (match Xc.close [Xc.tBegin] S with
  | none=>none
  | some (k,S1)=>some (Xc.put [Xc.lJ ++ k] S1))
 else if w = Xc.tUntil then some (match Xc.close [Xc.tBegin] S with
  | none=>none
  | some (k,S1)=>some (Xc.unless k S1))
 else if w = Xc.tRepeat then some (match Xc.close [Xc.tWhile] S with
  | none=>none
  | some (k,S1)=>some (Xc.put [Xc.lJ ++ (Xc.back S1).1,k ++ [58]] (Xc.back S1).2))
 else none
def Xc.quoted (w : List UInt8) (S : Xc.S) : Xc.R:=
 if Xc.word S.s = [] then .bad 40
 else if w = Xc.tTick then .ok (Xc.push (Xc.lLa ++ Xc.label0 (Xc.word S.s)) (Xc.atRest (Xc.rest S.s) S))
 else .ok (Xc.push (Xc.lLi ++ Lib.decDigits ((Xc.word S.s).getD 0 0).toNat) (Xc.atRest (Xc.rest S.s) S))
def Xc.other (w : List UInt8) (S : Xc.S) : Xc.S:=
 if (L6.number w).2 = true then Xc.push (Xc.lLi ++ w) S
 else if 1 < w.length ∧ w.getD 0 0 = 38 then Xc.push (Xc.lLa ++ w) S
 else Xc.put [Xc.lCall ++ Xc.label0 w] S
def Xc.inside2 (w : List UInt8) (S : Xc.S) : Xc.R:=
 if w = Xc.tSemi then (if S.opens ≠ [] then .bad 44 else .ok (Xc.leave (Xc.inIt false S)))
 else if w = Xc.tExit then .ok (Xc.leave S)
 else if w = Xc.tRec then .ok (Xc.put [Xc.lCall ++ Xc.label0 S.name] S)
 else if w = Xc.tText then .stuck
 else if w = Xc.tTick ∨ w = Xc.tChar then Xc.quoted w S
 else .ok (Xc.other w S)
def Xc.inside (tag w : List UInt8) (S : Xc.S) : Xc.R:=
 match Xc.begins tag w S with
 | some r=>r
 | none=>match Xc.ends tag w S with
  | some none=>.bad 44
  | some (some S1)=>.ok S1
  | none=>match Xc.makes w with
   | some _=>.bad 44
   | none=>Xc.inside2 w S
def Xc.one (tag w : List UInt8) (S : Xc.S) : Xc.R:=if S.within then Xc.inside tag w S else Xc.top w S
def Xc.line (tag : List UInt8) : Nat → Xc.S → Xc.R
 | 0,_=>.stuck
 | n + 1,S=>
  if Xc.word S.s = [] ∨ Xc.word S.s = Xc.tNote then .ok (Xc.atRest (Xc.rest S.s) S)
  else if Xc.word S.s = Xc.tOpen then Xc.line tag n (Xc.atRest (Xc.upTo 41 (Xc.rest S.s)) S)
  else match Xc.one tag (Xc.word S.s) (Xc.atRest (Xc.rest S.s) S) with
   | .ok S1=>Xc.line tag n S1
   | r=>r
def Xc.alone (s word : List UInt8) : Bool:=decide (Xc.word s = word) && (Xc.word (Xc.rest s)).isEmpty
inductive Xc.E where
 | bad (n e : Nat)
 | ok (S : Xc.S)
 | stuck
def Xc.comp (tag : List UInt8) : Nat → Xc.S → List (List UInt8) → Xc.E
 | n,S,[]=>if S.within then .bad (n + 1) 44 else if S.number ≠ [] then .bad (n + 1) 40 else .ok S
 | n,S,t :: r=>
  if S.within = false ∧ S.number = [] ∧ Xc.alone t Xc.tAsm = true then .stuck
  else match Xc.line tag (t.length + 1) (Xc.atRest t S) with
   | .ok S1=>Xc.comp tag (n + 1) S1 r
   | .bad e=>.bad (n + 1) e
   | .stuck=>.stuck
def Xc.start : Xc.S:=⟨[],[],false,[],[],0,[]⟩
def Xc.textW (w : Xc.W) : List UInt8:=
 (if w.first = [] then [] else w.first ++ ((if Lib.hasPrefix w.first Xc.lDef then 32 :: Lib.decDigits w.flags else []) ++ [10])) ++ w.lines.flatMap fun l=>l ++ [10]
def Xc.text (l : List Xc.W) : List UInt8:=l.flatMap Xc.textW
def Xc.compile (tag s : List UInt8) : Option (List UInt8 × Nat × Nat):=
 match Xc.comp tag 0 Xc.start (L6.split s) with
 | .bad n e=>some ([],n,e)
 | .ok S=>some (Xc.text S.words,0,0)
 | .stuck=>none
end Go.Proofs.YtpcpaoeajcjoiaaGreatDoor
namespace Go.Proofs.YtpcpaoeajcjoiaaGreatDoor
def Xc.lsum (l : List (List UInt8)) : Nat:=(l.map fun x=>x.length + 1).sum
def Xc.wt (w : Xc.W) : Nat:=w.first.length + 40 + Xc.lsum w.lines
def Xc.weight (ws : List Xc.W) : Nat:=(ws.map Xc.wt).sum
theorem Xc.lsum_app (a b : List (List UInt8)) : Xc.lsum (a ++ b) = Xc.lsum a + Xc.lsum b:=by simp [Xc.lsum]
theorem Xc.lsum_cons (x : List UInt8) (t : List (List UInt8)) : Xc.lsum (x :: t) = x.length + 1 + Xc.lsum t:=by simp [Xc.lsum]
theorem Xc.lsum_nil : Xc.lsum [] = 0:=rfl
theorem Xc.lsum_len (l : List (List UInt8)) : l.length ≤ Xc.lsum l:=by
 induction l with
 | nil=>simp [Xc.lsum]
 | cons x t ih=>rw [Xc.lsum_cons,List.length_cons];omega
theorem Xc.lsum_mem {l : List (List UInt8)} {x : List UInt8} (h : x ∈ l) : x.length ≤ Xc.lsum l:=by
 induction l with
 | nil=>simp at h
 | cons y t ih=>
  rw [Xc.lsum_cons]
  rcases List.mem_cons.1 h with rfl | h
  ·omega
  ·have:=ih h;omega
theorem Xc.weight_app (a b : List Xc.W) : Xc.weight (a ++ b) = Xc.weight a + Xc.weight b:=by simp [Xc.weight]
theorem Xc.weight_one (w : Xc.W) : Xc.weight [w] = Xc.wt w:=by simp [Xc.weight]
theorem Xc.weight_len (l : List Xc.W) : l.length ≤ Xc.weight l:=by
 induction l with
 | nil=>simp [Xc.weight]
 | cons x t ih=>
  have : Xc.weight (x :: t) = Xc.wt x + Xc.weight t:=by simp [Xc.weight]
  rw [this,List.length_cons]
  unfold Xc.wt
  omega
theorem Xc.weight_mem {l : List Xc.W} {x : Xc.W} (h : x ∈ l) : Xc.wt x ≤ Xc.weight l:=by
 induction l with
 | nil=>simp at h
 | cons y t ih=>
  have : Xc.weight (y :: t) = Xc.wt y + Xc.weight t:=by simp [Xc.weight]
  rw [this]
  rcases List.mem_cons.1 h with rfl | h
  ·omega
  ·have:=ih h;omega
theorem Xc.weight_put (ls : List (List UInt8)) : ∀ (ws : List Xc.W),Xc.weight (Xc.upd (Xc.add ls) ws) ≤ Xc.weight ws + Xc.lsum ls
 | []=>Nat.zero_le _
 | [w]=>by
  show Xc.weight [Xc.add ls w] ≤ _
  rw [Xc.weight_one,Xc.weight_one]
  unfold Xc.wt Xc.add
  dsimp only
  rw [Xc.lsum_app]
  omega
 | w :: x :: t=>by
  have h:=Xc.weight_put ls (x :: t)
  have e1 : ∀ l,Xc.weight (w :: l) = Xc.wt w + Xc.weight l:=fun l=>by simp [Xc.weight]
  rw [Xc.upd,e1,e1]
  omega
theorem Xc.weight_flag (n : Nat) : ∀ (ws : List Xc.W),Xc.weight (Xc.upd (Xc.flagW n) ws) = Xc.weight ws
 | []=>rfl
 | [w]=>by
  show Xc.weight [Xc.flagW n w] = _
  rw [Xc.weight_one,Xc.weight_one]
  rfl
 | w :: x :: t=>by
  have h:=Xc.weight_flag n (x :: t)
  have e1 : ∀ l,Xc.weight (w :: l) = Xc.wt w + Xc.weight l:=fun l=>by simp [Xc.weight]
  rw [Xc.upd,e1,e1,h]
theorem Xc.upd_ne (f : Xc.W → Xc.W) : ∀ (ws : List Xc.W),ws ≠ [] → Xc.upd f ws ≠ []
 | [],h=>h
 | [w],_=>by simp [Xc.upd]
 | w :: x :: t,_=>by simp [Xc.upd]
theorem Xc.dec_len10 : ∀ (k n : Nat),n < 10 ^ (k + 1) → (Lib.decDigits n).length ≤ k + 1
 | 0,n,h=>by
  unfold Lib.decDigits
  rw [dif_pos (by simpa using h)]
  simp
 | k + 1,n,h=>by
  unfold Lib.decDigits
  split
  ·simp
  ·have:=Xc.dec_len10 k (n / 10) (by rw [Nat.pow_succ] at h;omega)
   simp only [List.length_append,List.length_cons,List.length_nil]
   omega
structure Xc.Ok (c : Nat) (S : Xc.S) : Prop where
 weight : Xc.weight S.words ≤ 1000000000 + 1000000 * c
 opens : S.opens.length ≤ 1000000 + c
 made : S.made ≤ 1000000 + c
 name : S.name.length ≤ 100000
 number : S.number.length ≤ 100000
 labs : ∀ p ∈ S.opens,p.2.length ≤ 1000
 s : S.s.length ≤ 100000
theorem Xc.Ok.mono {c d : Nat} {S : Xc.S} (h : Xc.Ok c S) (hd : c ≤ d) : Xc.Ok d S:=⟨by have:=h.weight;omega,by have:=h.opens;omega,by have:=h.made;omega,h.name,h.number,h.labs,h.s⟩
theorem Xc.Ok.put {c : Nat} {S : Xc.S} (h : Xc.Ok c S) (ls : List (List UInt8)) (hl : Xc.lsum ls ≤ 1000000) : Xc.Ok (c + 1) (Xc.put ls S):=
 ⟨by have:=h.weight;have:=Xc.weight_put ls S.words;show Xc.weight (Xc.upd _ S.words) ≤ _;omega,by have:=h.opens;show S.opens.length ≤ _;omega,by have:=h.made;show S.made ≤ _;omega,h.name,h.number,h.labs,h.s⟩
theorem Xc.Ok.more {c : Nat} {S : Xc.S} (h : Xc.Ok c S) : Xc.Ok (c + 1) (Xc.more S):=
 ⟨by have:=h.weight;show Xc.weight S.words ≤ _;omega,by have:=h.opens;show S.opens.length ≤ _;omega,by have:=h.made;show S.made + 1 ≤ _;omega,h.name,h.number,h.labs,h.s⟩
theorem Xc.Ok.wait {c : Nat} {S : Xc.S} (h : Xc.Ok c S) (w k : List UInt8) (hk : k.length ≤ 1000) : Xc.Ok (c + 1) (Xc.wait w k S):=
 ⟨by have:=h.weight;show Xc.weight S.words ≤ _;omega,by have:=h.opens;show (_ :: S.opens).length ≤ _;simp only [List.length_cons];omega,by have:=h.made;show S.made ≤ _;omega,h.name,h.number,fun p hp=>by
  rcases List.mem_cons.1 hp with rfl | hp
  ·exact hk
  ·exact h.labs p hp,h.s⟩
theorem Xc.Ok.atRest {c : Nat} {S : Xc.S} (h : Xc.Ok c S) (s : List UInt8) (hs : s.length ≤ 100000) : Xc.Ok c (Xc.atRest s S):=⟨h.weight,h.opens,h.made,h.name,h.number,h.labs,hs⟩
theorem Xc.Ok.num {c : Nat} {S : Xc.S} (h : Xc.Ok c S) (s : List UInt8) (hs : s.length ≤ 100000) : Xc.Ok c (Xc.num s S):=⟨h.weight,h.opens,h.made,h.name,hs,h.labs,h.s⟩
theorem Xc.Ok.inIt {c : Nat} {S : Xc.S} (h : Xc.Ok c S) (b : Bool) : Xc.Ok c (Xc.inIt b S):=⟨h.weight,h.opens,h.made,h.name,h.number,h.labs,h.s⟩
theorem Xc.Ok.addW {c : Nat} {S : Xc.S} (h : Xc.Ok c S) (f : List UInt8) (hf : f.length ≤ 500000) : Xc.Ok (c + 1) (Xc.addW f S):=
 ⟨by have:=h.weight;show Xc.weight (S.words ++ [_]) ≤ _;rw [Xc.weight_app,Xc.weight_one];unfold Xc.wt;dsimp only;rw [Xc.lsum_nil];omega,by have:=h.opens;show S.opens.length ≤ _;omega,by have:=h.made;show S.made ≤ _;omega,h.name,h.number,h.labs,h.s⟩
theorem Xc.close_some {kinds : List (List UInt8)} {S S1 : Xc.S} {k : List UInt8} (h : Xc.close kinds S = some (k,S1)) : ∃ w r,S.opens = (w,k) :: r ∧ w ∈ kinds ∧ S1 = Xc.shut r S:=by
 unfold Xc.close at h
 split at h
 ·cases h
 ·rename_i w k' r e
  split at h
  ·rename_i hm
   injection h with h
   injection h with h1 h2
   subst h1
   exact ⟨w,r,e,hm,h2.symm⟩
  ·cases h
theorem Xc.Ok.close {c : Nat} {S S1 : Xc.S} {kinds : List (List UInt8)} {k : List UInt8} (h : Xc.Ok c S) (hc : Xc.close kinds S = some (k,S1)) : Xc.Ok c S1 ∧ k.length ≤ 1000:=by
 obtain ⟨w,r,e,_,rfl⟩:=Xc.close_some hc
 have h1:=h.opens
 have h2:=h.labs
 rw [e] at h1 h2
 rw [List.length_cons] at h1
 exact ⟨⟨h.weight,by show r.length ≤ _;omega,h.made,h.name,h.number,fun p hp=>h2 p (List.mem_cons_of_mem _ hp),h.s⟩,h2 (w,k) (by simp)⟩
structure Xc.Lim (j N : Nat) (S : Xc.S) : Prop where
 weight : Xc.weight S.words + 1000 * (S.s.length + j) + 1000 * S.number.length ≤ 1000 * N
 opens : S.opens.length + S.s.length + j ≤ N
 made : S.made + S.s.length + j ≤ N
 name : S.name.length ≤ 31
 labs : ∀ p ∈ S.opens,p.2.length ≤ 50
 has : S.within = true → S.words ≠ []
theorem Xc.Lim.ok {j N : Nat} {S : Xc.S} (h : Xc.Lim j N S) (hN : N ≤ 50000) : Xc.Ok 0 S:=
 ⟨by have:=h.weight;omega,by have:=h.opens;omega,by have:=h.made;omega,by have:=h.name;omega,by have:=h.weight;omega,fun p hp=>by have:=h.labs p hp;omega,by have:=h.opens;omega⟩
theorem Xc.word_rest (s : List UInt8) : (Xc.word s).length + (Xc.rest s).length ≤ s.length:=by
 have h1 : (Xc.skip s).length ≤ s.length:=(List.dropWhile_sublist _).length_le
 have h2 : ((Xc.skip s).takeWhile (fun c=>!Xc.gap c)).length + ((Xc.skip s).dropWhile (fun c=>!Xc.gap c)).length = (Xc.skip s).length:=by
  rw [← List.length_append,List.takeWhile_append_dropWhile]
 show ((Xc.skip s).takeWhile _).length + ((Xc.skip s).dropWhile _).length ≤ _
 omega
theorem Xc.Lim.take {N : Nat} {S : Xc.S} (h : Xc.Lim 0 N S) : Xc.Lim (Xc.word S.s).length N (Xc.atRest (Xc.rest S.s) S):=by
 have:=Xc.word_rest S.s
 exact ⟨by have:=h.weight;show Xc.weight S.words + 1000 * ((Xc.rest S.s).length + _) + 1000 * S.number.length ≤ _;omega,by have:=h.opens;show S.opens.length + (Xc.rest S.s).length + _ ≤ _;omega,by have:=h.made;show S.made + (Xc.rest S.s).length + _ ≤ _;omega,h.name,h.labs,h.has⟩
theorem Xc.Lim.less {j N : Nat} {S : Xc.S} (h : Xc.Lim j N S) : Xc.Lim 0 N S:=⟨by have:=h.weight;omega,by have:=h.opens;omega,by have:=h.made;omega,h.name,h.labs,h.has⟩
theorem Xc.Lim.shrink {N : Nat} {S : Xc.S} (h : Xc.Lim 0 N S) (s : List UInt8) (hs : s.length ≤ S.s.length) : Xc.Lim 0 N (Xc.atRest s S):=
 ⟨by have:=h.weight;show Xc.weight S.words + 1000 * (s.length + 0) + 1000 * S.number.length ≤ _;omega,by have:=h.opens;show S.opens.length + s.length + 0 ≤ _;omega,by have:=h.made;show S.made + s.length + 0 ≤ _;omega,h.name,h.labs,h.has⟩
theorem Xc.Lim.line {N : Nat} {S : Xc.S} (h : Xc.Lim 0 N S) (t : List UInt8) : Xc.Lim 0 (N + t.length) (Xc.atRest t S):=
 ⟨by have:=h.weight;show Xc.weight S.words + 1000 * (t.length + 0) + 1000 * S.number.length ≤ _;omega,by have:=h.opens;show S.opens.length + t.length + 0 ≤ _;omega,by have:=h.made;show S.made + t.length + 0 ≤ _;omega,h.name,h.labs,h.has⟩
theorem Xc.Lim.step {j N : Nat} {S S1 : Xc.S} (h : Xc.Lim j N S) (hs : S1.s.length ≤ S.s.length) (hn : S1.number.length ≤ S.number.length) (hw : Xc.weight S1.words ≤ Xc.weight S.words + 1000 * j + 1000 * (S.number.length - S1.number.length) + 1000 * (S.s.length - S1.s.length))
  (ho : S1.opens.length ≤ S.opens.length + j) (hm : S1.made ≤ S.made + j) (hname : S1.name.length ≤ 31) (hl : ∀ p ∈ S1.opens,p.2.length ≤ 50) (hh : S1.within = true → S1.words ≠ []) : Xc.Lim 0 N S1:=
 ⟨by have:=h.weight;omega,by have:=h.opens;omega,by have:=h.made;omega,hname,hl,hh⟩
theorem Xc.lab_len {tag : List UInt8} (ht : tag.length ≤ 31) {n : Nat} (hn : n < 1000000) : (Xc.lab tag n).length ≤ 37:=by
 have:=Xc.dec_len10 5 n hn
 unfold Xc.lab
 rw [List.length_append]
 omega
theorem Xc.Lim.begins {tag w : List UInt8} (ht : tag.length ≤ 31) {j N : Nat} (hj : 1 ≤ j) (hN : N ≤ 50000) {S S1 : Xc.S} (h : Xc.Lim j N S) (hb : Xc.begins tag w S = some (.ok S1)) : Xc.Lim 0 N S1:=by
 have hl:=Xc.lab_len ht (n:=S.made) (by have:=h.made;omega)
 have hlabs : ∀ p ∈ (w,Xc.lab tag S.made) :: S.opens,p.2.length ≤ 50:=fun p hp=>by
  rcases List.mem_cons.1 hp with rfl | hp
  ·show (Xc.lab tag S.made).length ≤ 50;omega
  ·exact h.labs p hp
 unfold Xc.begins at hb
 split at hb
 ·injection hb with hb;injection hb with hb;subst hb
  refine h.step (Nat.le_refl _) (Nat.le_refl _) ?_ ?_ ?_ h.name hlabs (fun e=>Xc.upd_ne _ _ (h.has e))
  ·have:=Xc.weight_put [Xc.lab tag S.made ++ [58]] S.words
   show Xc.weight (Xc.upd _ S.words) ≤ _
   have u : Xc.lsum [Xc.lab tag S.made ++ [58]] ≤ 200:=by (simp only [Xc.lsum_cons,Xc.lsum_nil,List.length_append,List.length_cons,List.length_nil];omega)
   omega
  ·show (_ :: S.opens).length ≤ _;rw [List.length_cons];omega
  ·show S.made + 1 ≤ _;omega
 ·split at hb
  ·cases hb
  ·split at hb
   ·injection hb with hb;injection hb with hb;subst hb
    refine h.step (Nat.le_refl _) (Nat.le_refl _) ?_ ?_ ?_ h.name hlabs (fun e=>Xc.upd_ne _ _ (h.has e))
    ·have:=Xc.weight_put [Xc.lLw,Xc.lPop,Xc.lBnez,Xc.lJ ++ Xc.lab tag S.made] S.words
     show Xc.weight (Xc.upd _ S.words) ≤ _
     have u : Xc.lsum [Xc.lLw,Xc.lPop,Xc.lBnez,Xc.lJ ++ Xc.lab tag S.made] ≤ 200:=by (simp only [Xc.lsum_cons,Xc.lsum_nil,List.length_append,Xc.lLw,Xc.lPop,Xc.lBnez,Xc.lJ,List.length_cons,List.length_nil];omega)
     omega
    ·show (_ :: S.opens).length ≤ _;rw [List.length_cons];omega
    ·show S.made + 1 ≤ _;omega
   ·cases hb
theorem Xc.Lim.ends {tag w : List UInt8} (ht : tag.length ≤ 31) {j N : Nat} (hj : 1 ≤ j) (hN : N ≤ 50000) {S S1 : Xc.S} (h : Xc.Lim j N S) (hb : Xc.ends tag w S = some (some S1)) : Xc.Lim 0 N S1:=by
 have hl:=Xc.lab_len ht (n:=S.made) (by have:=h.made;omega)
 have hclose : ∀ {kinds : List (List UInt8)} {k : List UInt8} {D : Xc.S},Xc.close kinds S = some (k,D) → ∃ w r,S.opens = (w,k) :: r ∧ D = Xc.shut r S ∧ k.length ≤ 50 ∧ (∀ p ∈ r,p.2.length ≤ 50) ∧ r.length + 1 = S.opens.length:=fun hc=>by
  obtain ⟨w,r,e,_,e2⟩:=Xc.close_some hc
  have h2:=h.labs
  rw [e] at h2
  exact ⟨w,r,e,e2,h2 (w,_) (by simp),fun p hp=>h2 p (by simp [hp]),by rw [e];rfl⟩
 unfold Xc.ends at hb
 split at hb
 ·injection hb with hb
  split at hb
  ·cases hb
  ·rename_i k D hc
   obtain ⟨w',r,e,rfl,k1,k2,k3⟩:=hclose hc
   injection hb with hb;subst hb
   refine h.step (Nat.le_refl _) (Nat.le_refl _) ?_ ?_ ?_ h.name (fun p hp=>?_) (fun e=>Xc.upd_ne _ _ (h.has e))
   ·have:=Xc.weight_put [Xc.lJ ++ Xc.lab tag S.made,k ++ [58]] S.words
    show Xc.weight (Xc.upd _ S.words) ≤ _
    have u : Xc.lsum [Xc.lJ ++ Xc.lab tag S.made,k ++ [58]] ≤ 200:=by (simp only [Xc.lsum_cons,Xc.lsum_nil,List.length_append,Xc.lJ,List.length_cons,List.length_nil];omega)
    show Xc.weight (Xc.upd (Xc.add [Xc.lJ ++ Xc.lab tag S.made,k ++ [58]]) S.words) ≤ _
    omega
   ·show (_ :: r).length ≤ _;rw [List.length_cons];omega
   ·show S.made + 1 ≤ _;omega
   ·rcases List.mem_cons.1 hp with rfl | hp
    ·show (Xc.lab tag S.made).length ≤ 50;omega
    ·exact k2 p hp
 split at hb
 ·injection hb with hb
  split at hb
  ·cases hb
  ·rename_i k D hc
   obtain ⟨w',r,e,rfl,k1,k2,k3⟩:=hclose hc
   injection hb with hb;subst hb
   refine h.step (Nat.le_refl _) (Nat.le_refl _) ?_ (by show r.length ≤ _;omega) (by show S.made ≤ _;omega) h.name k2 (fun e=>Xc.upd_ne _ _ (h.has e))
   have:=Xc.weight_put [k ++ [58]] S.words
   have u : Xc.lsum [k ++ [58]] ≤ 200:=by (simp only [Xc.lsum_cons,Xc.lsum_nil,List.length_append,List.length_cons,List.length_nil];omega)
   show Xc.weight (Xc.upd (Xc.add [k ++ [58]]) S.words) ≤ _
   omega
 split at hb
 ·injection hb with hb
  split at hb
  ·cases hb
  ·rename_i k D hc
   obtain ⟨w',r,e,rfl,k1,k2,k3⟩:=hclose hc
   injection hb with hb;subst hb
   refine h.step (Nat.le_refl _) (Nat.le_refl _) ?_ (by show r.length ≤ _;omega) (by show S.made ≤ _;omega) h.name k2 (fun e=>Xc.upd_ne _ _ (h.has e))
   have:=Xc.weight_put [Xc.lJ ++ k] S.words
   have u : Xc.lsum [Xc.lJ ++ k] ≤ 200:=by (simp only [Xc.lsum_cons,Xc.lsum_nil,List.length_append,Xc.lJ,List.length_cons,List.length_nil];omega)
   show Xc.weight (Xc.upd (Xc.add [Xc.lJ ++ k]) S.words) ≤ _
   omega
 split at hb
 ·injection hb with hb
  split at hb
  ·cases hb
  ·rename_i k D hc
   obtain ⟨w',r,e,rfl,k1,k2,k3⟩:=hclose hc
   injection hb with hb;subst hb
   refine h.step (Nat.le_refl _) (Nat.le_refl _) ?_ (by show r.length ≤ _;omega) (by show S.made ≤ _;omega) h.name k2 (fun e=>Xc.upd_ne _ _ (h.has e))
   have:=Xc.weight_put [Xc.lLw,Xc.lPop,Xc.lBnez,Xc.lJ ++ k] S.words
   have u : Xc.lsum [Xc.lLw,Xc.lPop,Xc.lBnez,Xc.lJ ++ k] ≤ 200:=by (simp only [Xc.lsum_cons,Xc.lsum_nil,List.length_append,Xc.lLw,Xc.lPop,Xc.lBnez,Xc.lJ,List.length_cons,List.length_nil];omega)
   show Xc.weight (Xc.upd (Xc.add [Xc.lLw,Xc.lPop,Xc.lBnez,Xc.lJ ++ k]) S.words) ≤ _
   omega
 split at hb
 ·injection hb with hb
  split at hb
  ·cases hb
  ·rename_i k D hc
   obtain ⟨w',r,e,rfl,k1,k2,k3⟩:=hclose hc
   injection hb with hb;subst hb
   have hback : (Xc.back (Xc.shut r S)).1.length ≤ 50 ∧ (Xc.back (Xc.shut r S)).2.words = S.words ∧ (Xc.back (Xc.shut r S)).2.s = S.s ∧ (Xc.back (Xc.shut r S)).2.number = S.number ∧ (Xc.back (Xc.shut r S)).2.opens.length ≤ r.length ∧ (Xc.back (Xc.shut r S)).2.made = S.made ∧ (Xc.back (Xc.shut r S)).2.name = S.name ∧ (∀ p ∈ (Xc.back (Xc.shut r S)).2.opens,p.2.length ≤ 50) ∧ (Xc.back (Xc.shut r S)).2.within = S.within:=by
    unfold Xc.back
    cases hc2 : Xc.close [Xc.tBegin] (Xc.shut r S) with
    | none=>exact ⟨Nat.zero_le _,rfl,rfl,rfl,Nat.le_refl _,rfl,rfl,k2,rfl⟩
    | some p=>
     obtain ⟨k',D'⟩:=p
     obtain ⟨w2,r2,e2,_,rfl⟩:=Xc.close_some hc2
     have e2 : r = (w2,k') :: r2:=e2
     rw [e2] at k2
     exact ⟨k2 (w2,k') (by simp),rfl,rfl,rfl,by show r2.length ≤ _;rw [e2];simp,rfl,rfl,fun p hp=>k2 p (List.mem_cons_of_mem _ hp),rfl⟩
   obtain ⟨b1,b2,b3,b4,b5,b6,b7,b8,b9⟩:=hback
   generalize Xc.back (Xc.shut r S) = Bk at *
   obtain ⟨bk,BS⟩:=Bk
   dsimp only at *
   refine h.step (by show BS.s.length ≤ _;rw [b3];exact Nat.le_refl _) (by show BS.number.length ≤ _;rw [b4];exact Nat.le_refl _) ?_ (by show BS.opens.length ≤ _;omega) (by show BS.made ≤ _;omega) (by show BS.name.length ≤ _;rw [b7];exact h.name) b8 (fun e=>Xc.upd_ne _ _ (by rw [b2];exact h.has (by rw [← b9];exact e)))
   have:=Xc.weight_put [Xc.lJ ++ bk,k ++ [58]] BS.words
   have u : Xc.lsum [Xc.lJ ++ bk,k ++ [58]] ≤ 200:=by (simp only [Xc.lsum_cons,Xc.lsum_nil,List.length_append,Xc.lJ,List.length_cons,List.length_nil];omega)
   show Xc.weight (Xc.upd (Xc.add [Xc.lJ ++ bk,k ++ [58]]) BS.words) ≤ _
   rw [b2] at this ⊢
   omega
 ·cases hb
theorem Xc.right_len {l : List UInt8} (h : Nm.right l ≠ false) : l.length ≤ 31 ∧ l ≠ []:=by
 have h : Nm.right l = true:=by simpa using h
 unfold Nm.right at h
 simp only [Bool.and_eq_true,decide_eq_true_eq] at h
 refine ⟨h.2.2,fun e=>?_⟩
 subst e
 exact absurd h.2.1 (by decide)
theorem Xc.Lim.top {w : List UInt8} {N : Nat} {S S1 : Xc.S} (hw : w ≠ []) (h : Xc.Lim w.length N S) (hb : Xc.top w S = .ok S1) : Xc.Lim 0 N S1:=by
 have hj : 1 ≤ w.length:=List.length_pos_iff.2 hw
 unfold Xc.top at hb
 split at hb
 ·rename_i kind hk
  unfold Xc.make at hb
  split at hb
  ·cases hb
  rename_i hcond
  have hnum : kind ≠ Xc.tCon → S.number = []:=fun hne=>by
   rw [decide_eq_false hne] at hcond
   cases hn : S.number with
   | nil=>rfl
   | cons c t=>rw [hn] at hcond;simp at hcond
  unfold Xc.begin at hb
  have es : (Xc.num [] S).s = S.s:=rfl
  rw [es] at hb
  by_cases h1 : Xc.word S.s = []
  ·rw [if_pos h1] at hb;cases hb
  rw [if_neg h1] at hb
  by_cases h2 : Nm.right (Xc.word S.s) = false
  ·rw [if_pos h2] at hb;cases hb
  rw [if_neg h2] at hb
  obtain ⟨hwl,_⟩:=Xc.right_len h2
  have hwr:=Xc.word_rest S.s
  have hw1 : 1 ≤ (Xc.word S.s).length:=List.length_pos_iff.2 h1
  injection hb with hb
  subst hb
  generalize hf : (if Lib.hasPrefix w Xc.tColons = true then Xc.lPart else Xc.lDef) ++ Xc.word S.s = f
  have hfl : f.length ≤ 36:=by
   subst hf
   rw [List.length_append]
   split
   ·simp only [Xc.lPart,List.length_cons,List.length_nil];omega
   ·simp only [Xc.lDef,List.length_cons,List.length_nil];omega
  have hwt : Xc.weight (S.words ++ [(⟨f,0,[]⟩ : Xc.W)]) ≤ Xc.weight S.words + 76:=by
   rw [Xc.weight_app,Xc.weight_one]
   unfold Xc.wt
   dsimp only
   rw [Xc.lsum_nil]
   omega
  unfold Xc.made_
  split
  ·refine h.step (by show (Xc.rest S.s).length ≤ _;omega) (Nat.zero_le _) ?_ (by show S.opens.length ≤ _;omega) (by show S.made ≤ _;omega) hwl h.labs (fun _=>Xc.upd_ne _ _ (fun e=>by cases (List.append_eq_nil_iff.1 e).2))
   have:=Xc.weight_put [Xc.lDown,Xc.lSave] (S.words ++ [(⟨f,0,[]⟩ : Xc.W)])
   have u : Xc.lsum [Xc.lDown,Xc.lSave] ≤ 200:=by (simp only [Xc.lsum_cons,Xc.lsum_nil,Xc.lDown,Xc.lSave,List.length_cons,List.length_nil];omega)
   show Xc.weight (Xc.upd (Xc.add [Xc.lDown,Xc.lSave]) (S.words ++ [(⟨f,0,[]⟩ : Xc.W)])) ≤ _
   omega
  split
  ·refine h.step (by show (Xc.rest S.s).length ≤ _;omega) (Nat.zero_le _) ?_ (by show S.opens.length ≤ _;omega) (by show S.made ≤ _;omega) hwl h.labs (fun _=>Xc.upd_ne _ _ (Xc.upd_ne _ _ (fun e=>by cases (List.append_eq_nil_iff.1 e).2)))
   have t1:=Xc.weight_put [Xc.lLaA ++ Xc.word S.s,Xc.lAddi,Xc.lSw] (S.words ++ [(⟨f,0,[]⟩ : Xc.W)])
   have t2:=Xc.weight_put [Xc.lRet,38 :: (Xc.word S.s ++ Xc.lWord)] (Xc.upd (Xc.add [Xc.lLaA ++ Xc.word S.s,Xc.lAddi,Xc.lSw]) (S.words ++ [(⟨f,0,[]⟩ : Xc.W)]))
   show Xc.weight (Xc.upd (Xc.add [Xc.lRet,38 :: (Xc.word S.s ++ Xc.lWord)]) (Xc.upd (Xc.add [Xc.lLaA ++ Xc.word S.s,Xc.lAddi,Xc.lSw]) (S.words ++ [(⟨f,0,[]⟩ : Xc.W)]))) ≤ _
   have u1 : Xc.lsum [Xc.lLaA ++ Xc.word S.s,Xc.lAddi,Xc.lSw] ≤ 100:=by
    simp only [Xc.lsum_cons,Xc.lsum_nil,List.length_append,Xc.lLaA,Xc.lAddi,Xc.lSw,List.length_cons,List.length_nil];omega
   have u2 : Xc.lsum [Xc.lRet,38 :: (Xc.word S.s ++ Xc.lWord)] ≤ 100:=by
    simp only [Xc.lsum_cons,Xc.lsum_nil,List.length_append,Xc.lRet,Xc.lWord,List.length_cons,List.length_nil];omega
   omega
  ·refine h.step (by show (Xc.rest S.s).length ≤ _;omega) (Nat.zero_le _) ?_ (by show S.opens.length ≤ _;omega) (by show S.made ≤ _;omega) hwl h.labs (fun _=>Xc.upd_ne _ _ (Xc.upd_ne _ _ (fun e=>by cases (List.append_eq_nil_iff.1 e).2)))
   have t1:=Xc.weight_put [Xc.lLi ++ S.number,Xc.lAddi,Xc.lSw] (S.words ++ [(⟨f,0,[]⟩ : Xc.W)])
   have t2:=Xc.weight_put [Xc.lRet] (Xc.upd (Xc.add [Xc.lLi ++ S.number,Xc.lAddi,Xc.lSw]) (S.words ++ [(⟨f,0,[]⟩ : Xc.W)]))
   show Xc.weight (Xc.upd (Xc.add [Xc.lRet]) (Xc.upd (Xc.add [Xc.lLi ++ S.number,Xc.lAddi,Xc.lSw]) (S.words ++ [(⟨f,0,[]⟩ : Xc.W)]))) ≤ Xc.weight S.words + 1000 * w.length + 1000 * (S.number.length - 0) + 1000 * (S.s.length - (Xc.rest S.s).length)
   have u1 : Xc.lsum [Xc.lLi ++ S.number,Xc.lAddi,Xc.lSw] ≤ 100 + S.number.length:=by
    simp only [Xc.lsum_cons,Xc.lsum_nil,List.length_append,Xc.lLi,Xc.lAddi,Xc.lSw,List.length_cons,List.length_nil];omega
   have u2 : Xc.lsum [Xc.lRet] ≤ 100:=by
    simp only [Xc.lsum_cons,Xc.lsum_nil,List.length_append,Xc.lRet,List.length_cons,List.length_nil];omega
   omega
 ·have hf : ∀ n,Xc.flag n (Xc.num [] S) = .ok S1 → Xc.Lim 0 N S1:=fun n e=>by
   unfold Xc.flag at e
   split at e
   ·cases e
   split at e
   ·cases e
   injection e with e
   subst e
   refine h.step (Nat.le_refl _) (Nat.zero_le _) ?_ (by show S.opens.length ≤ _;omega) (by show S.made ≤ _;omega) h.name h.labs (fun e=>Xc.upd_ne _ _ (h.has e))
   show Xc.weight (Xc.upd (Xc.flagW n) S.words) ≤ _
   rw [Xc.weight_flag]
   omega
  split at hb
  ·cases hb
  rename_i hnum
  have hnum : S.number = []:=by
   cases hn : S.number with
   | nil=>rfl
   | cons c t=>exact absurd (by rw [hn];simp) hnum
  split at hb
  ·exact hf 1 hb
  split at hb
  ·exact hf 2 hb
  split at hb
  ·exact hf 4 hb
  split at hb
  ·cases hb
  ·injection hb with hb
   subst hb
   have hwg:=h.weight
   rw [hnum,List.length_nil] at hwg
   exact ⟨by show Xc.weight S.words + 1000 * (S.s.length + 0) + 1000 * w.length ≤ _;omega,by have:=h.opens;show S.opens.length + S.s.length + 0 ≤ _;omega,by have:=h.made;show S.made + S.s.length + 0 ≤ _;omega,h.name,h.labs,h.has⟩
theorem Xc.Lim.inside {tag w : List UInt8} (ht : tag.length ≤ 31) {N : Nat} (hN : N ≤ 50000) {S S1 : Xc.S} (hw : w ≠ []) (h : Xc.Lim w.length N S) (hb : Xc.inside tag w S = .ok S1) : Xc.Lim 0 N S1:=by
 have hj : 1 ≤ w.length:=List.length_pos_iff.2 hw
 unfold Xc.inside at hb
 cases h1 : Xc.begins tag w S with
 | some r=>rw [h1] at hb;have hb : r = _:=hb;subst hb;exact h.begins ht hj hN h1
 | none=>
  rw [h1] at hb
  dsimp only at hb
  cases h2 : Xc.ends tag w S with
  | some o=>
   rw [h2] at hb
   cases o with
   | none=>cases hb
   | some D=>injection hb with hb;subst hb;exact h.ends ht hj hN h2
  | none=>
   rw [h2] at hb
   dsimp only at hb
   cases h3 : Xc.makes w with
   | some k=>rw [h3] at hb;cases hb
   | none=>
    rw [h3] at hb
    dsimp only at hb
    have hput : ∀ ls,Xc.lsum ls ≤ 200 + 3 * w.length → Xc.Lim 0 N (Xc.put ls S):=fun ls hl=>by
     refine h.step (Nat.le_refl _) (Nat.le_refl _) ?_ (by show S.opens.length ≤ _;omega) (by show S.made ≤ _;omega) h.name h.labs (fun e=>Xc.upd_ne _ _ (h.has e))
     have:=Xc.weight_put ls S.words
     show Xc.weight (Xc.upd (Xc.add ls) S.words) ≤ _
     omega
    have hname:=h.name
    unfold Xc.inside2 at hb
    split at hb
    ·split at hb
     ·cases hb
     ·injection hb with hb
      subst hb
      refine h.step (Nat.le_refl _) (Nat.le_refl _) ?_ (by show S.opens.length ≤ _;omega) (by show S.made ≤ _;omega) h.name h.labs (fun e=>by cases e)
      have:=Xc.weight_put [Xc.lRa,Xc.lSp,Xc.lRet] S.words
      have u : Xc.lsum [Xc.lRa,Xc.lSp,Xc.lRet] ≤ 200:=by (simp only [Xc.lsum_cons,Xc.lsum_nil,Xc.lRa,Xc.lSp,Xc.lRet,List.length_cons,List.length_nil];omega)
      show Xc.weight (Xc.upd (Xc.add [Xc.lRa,Xc.lSp,Xc.lRet]) S.words) ≤ _
      omega
    split at hb
    ·injection hb with hb;subst hb
     exact hput _ (by simp only [Xc.lsum_cons,Xc.lsum_nil,Xc.lRa,Xc.lSp,Xc.lRet,List.length_cons,List.length_nil];omega)
    split at hb
    ·injection hb with hb;subst hb
     exact hput _ (by simp only [Xc.lsum_cons,Xc.lsum_nil,Xc.lCall,Xc.label0,Xc.lZero,List.length_append,List.length_cons,List.length_nil];omega)
    split at hb
    ·cases hb
    split at hb
    ·unfold Xc.quoted at hb
     split at hb
     ·cases hb
     rename_i h0
     have hwr:=Xc.word_rest S.s
     have hw1 : 1 ≤ (Xc.word S.s).length:=List.length_pos_iff.2 h0
     have hq : ∀ ls,Xc.lsum ls ≤ 200 + 3 * (Xc.word S.s).length → Xc.Lim 0 N (Xc.put ls (Xc.atRest (Xc.rest S.s) S)):=fun ls hl=>by
      refine h.step (by show (Xc.rest S.s).length ≤ _;omega) (Nat.le_refl _) ?_ (by show S.opens.length ≤ _;omega) (by show S.made ≤ _;omega) h.name h.labs (fun e=>Xc.upd_ne _ _ (h.has e))
      have:=Xc.weight_put ls S.words
      show Xc.weight (Xc.upd (Xc.add ls) S.words) ≤ Xc.weight S.words + 1000 * w.length + 1000 * (S.number.length - S.number.length) + 1000 * (S.s.length - (Xc.rest S.s).length)
      omega
     split at hb
     ·injection hb with hb;subst hb
      exact hq _ (by simp only [Xc.lsum_cons,Xc.lsum_nil,Xc.lLa,Xc.label0,Xc.lZero,Xc.lAddi,Xc.lSw,List.length_append,List.length_cons,List.length_nil];omega)
     ·injection hb with hb;subst hb
      have hd:=Xc.dec_len10 2 ((Xc.word S.s).getD 0 0).toNat (by have:=((Xc.word S.s).getD 0 0).toNat_lt;omega)
      exact hq _ (by simp only [Xc.lsum_cons,Xc.lsum_nil,Xc.lLi,Xc.lAddi,Xc.lSw,List.length_append,List.length_cons,List.length_nil];omega)
    ·injection hb with hb
     subst hb
     unfold Xc.other
     split
     ·exact hput _ (by simp only [Xc.lsum_cons,Xc.lsum_nil,Xc.lLi,Xc.lAddi,Xc.lSw,List.length_append,List.length_cons,List.length_nil];omega)
     split
     ·exact hput _ (by simp only [Xc.lsum_cons,Xc.lsum_nil,Xc.lLa,Xc.lAddi,Xc.lSw,List.length_append,List.length_cons,List.length_nil];omega)
     ·exact hput _ (by simp only [Xc.lsum_cons,Xc.lsum_nil,Xc.lCall,Xc.label0,Xc.lZero,List.length_append,List.length_cons,List.length_nil];omega)
theorem Xc.Lim.one {tag w : List UInt8} (ht : tag.length ≤ 31) {N : Nat} (hN : N ≤ 50000) {S S1 : Xc.S} (hw : w ≠ []) (h : Xc.Lim w.length N S) (hb : Xc.one tag w S = .ok S1) : Xc.Lim 0 N S1:=by
 unfold Xc.one at hb
 split at hb
 ·exact h.inside ht hN hw hb
 ·exact h.top hw hb
theorem Xc.upTo_len (c : UInt8) (s : List UInt8) : (Xc.upTo c s).length ≤ s.length:=by
 unfold Xc.upTo
 have:=(List.dropWhile_sublist (l:=s) (fun x=>x != c)).length_le
 rw [List.length_drop]
 omega
end Go.Proofs.YtpcpaoeajcjoiaaGreatDoor
namespace Go.Proofs.YtpcpaoeajcjoiaaGreatDoor
theorem Xc.gap32 : Xc.gap 32 = true:=rfl
theorem Xc.while_all (p : UInt8 → Bool) : ∀ (l : List UInt8),(∀ c ∈ l,p c = true) → l.takeWhile p = l ∧ l.dropWhile p = []
 | [],_=>⟨rfl,rfl⟩
 | c :: t,h=>by
  obtain ⟨a,b⟩:=Xc.while_all p t (fun x hx=>h x (by simp [hx]))
  rw [List.takeWhile_cons,if_pos (h c (by simp)),List.dropWhile_cons,if_pos (h c (by simp)),a,b]
  exact ⟨rfl,rfl⟩
structure Xc.Fine (w : List UInt8) : Prop where
 ne : w ≠ []
 all : ∀ c ∈ w,Xc.gap c = false
 note : w ≠ Xc.tNote
 opn : w ≠ Xc.tOpen
 text : w ≠ Xc.tText
 asm : w ≠ Xc.tAsm
theorem Xc.skip_of {w : List UInt8} (r : List UInt8) (h : w ≠ []) (ha : ∀ c ∈ w,Xc.gap c = false) : Xc.skip (w ++ r) = w ++ r:=by
 cases w with
 | nil=>exact absurd rfl h
 | cons c t=>
  unfold Xc.skip
  rw [List.cons_append,List.dropWhile_cons,if_neg (by rw [ha c (by simp)];decide)]
theorem Xc.word_of {w : List UInt8} (r : List UInt8) (h : w ≠ []) (ha : ∀ c ∈ w,Xc.gap c = false) (hr : r = [] ∨ r.headD 0 = 32) : Xc.word (w ++ r) = w ∧ Xc.rest (w ++ r) = r:=by
 have e:=Xc.skip_of r h ha
 have hr2 : r.takeWhile (fun c=>!Xc.gap c) = [] ∧ r.dropWhile (fun c=>!Xc.gap c) = r:=by
  cases r with
  | nil=>exact ⟨rfl,rfl⟩
  | cons c t=>
   rcases hr with hr | hr
   ·cases hr
   ·have hr : c = 32:=hr
    subst hr
    exact ⟨rfl,rfl⟩
 obtain ⟨h1,h2⟩:=Xc.while_all (fun c=>!Xc.gap c) w (fun c hc=>by rw [ha c hc];rfl)
 unfold Xc.word Xc.rest
 rw [e]
 refine ⟨?_,?_⟩
 ·rw [List.takeWhile_append,h1,if_pos rfl,hr2.1,List.append_nil]
 ·rw [List.dropWhile_append,h2,if_pos (show ([] : List UInt8).isEmpty = true from rfl),hr2.2]
theorem Xc.line_end (tag : List UInt8) (n : Nat) (S : Xc.S) : Xc.line tag (n + 1) (Xc.atRest [] S) = .ok (Xc.atRest [] S):=by
 have es : (Xc.atRest [] S).s = []:=rfl
 have e1 : Xc.word [] = []:=rfl
 rw [Xc.line,es,e1,if_pos (.inl rfl)]
 rfl
theorem Xc.line_step {tag w ρ : List UInt8} (hw : Xc.Fine w) (hr : ρ = [] ∨ ρ.headD 0 = 32) (n : Nat) (S : Xc.S) : Xc.line tag (n + 1) (Xc.atRest (w ++ ρ) S) = match Xc.one tag w (Xc.atRest ρ S) with | .ok S1=>Xc.line tag n S1 | r=>r:=by
 obtain ⟨e1,e2⟩:=Xc.word_of ρ hw.ne hw.all hr
 have es : (Xc.atRest (w ++ ρ) S).s = w ++ ρ:=rfl
 have ea : ∀ x y,Xc.atRest x (Xc.atRest y S) = Xc.atRest x S:=fun _ _=>rfl
 rw [Xc.line,es,e1,e2,if_neg (fun h=>h.elim hw.ne hw.note),if_neg hw.opn,ea]
theorem Xc.line_skip {tag : List UInt8} {c : UInt8} (hc : Xc.gap c = true) (s : List UInt8) (n : Nat) (S : Xc.S) : Xc.line tag (n + 1) (Xc.atRest (c :: s) S) = Xc.line tag (n + 1) (Xc.atRest s S):=by
 have es : ∀ x,(Xc.atRest x S).s = x:=fun _=>rfl
 have ea : ∀ x y,Xc.atRest x (Xc.atRest y S) = Xc.atRest x S:=fun _ _=>rfl
 have k : Xc.skip (c :: s) = Xc.skip s:=by unfold Xc.skip;rw [List.dropWhile_cons,if_pos hc]
 have e1 : Xc.word (c :: s) = Xc.word s:=by unfold Xc.word;rw [k]
 have e2 : Xc.rest (c :: s) = Xc.rest s:=by unfold Xc.rest;rw [k]
 rw [Xc.line,Xc.line,es,es,e1,e2,ea,ea,ea,ea]
theorem Xc.split_line (a r : List UInt8) (h : 10 ∉ a) : L6.split (a ++ 10 :: r) = a :: L6.split r:=by
 induction a with
 | nil=>rfl
 | cons c t ih=>
  have hc : c ≠ 10:=fun e=>h (by simp [e])
  rw [List.cons_append]
  show (if c = 10 then _ else _) = _
  rw [if_neg hc,ih (fun e=>h (by simp [e]))]
end Go.Proofs.YtpcpaoeajcjoiaaGreatDoor
namespace Go.Proofs.YtpcpaoeajcjoiaaGreatDoor
def Cb.tOne : List UInt8:=[79,78,69]
def Cb.tTwo : List UInt8:=[84,87,79]
def Cb.tV : List UInt8:=[86]
def Cb.tSeven : List UInt8:=[83,69,86,69,78]
def Cb.tX : List UInt8:=[120]
def Cb.tAmp : List UInt8:=[38,86]
def Cb.tM5 : List UInt8:=[45,53]
def Cb.tHun : List UInt8:=[49,48,48,48,48,48]
def Cb.all : List (List UInt8):=[Xc.tIf,Xc.tElse,Xc.tThen,Xc.tBegin,Xc.tWhile,Xc.tRepeat,Xc.tUntil,Xc.tAgain,Xc.tExit,Xc.tRec,Xc.tTick ++ 32 :: Cb.tOne,Xc.tChar ++ 32 :: Cb.tX,Cb.tAmp,Cb.tOne,Cb.tM5,Cb.tHun,Cb.tV,Cb.tSeven]
inductive Cb.I where
 | fix (i : Nat)
 | j (n : Nat)
 | at_ (n : Nat)
def Cb.l120 : List UInt8:=Xc.lLi ++ [49,50,48]
def Cb.fixT : List (List UInt8):=[Xc.lDown,Xc.lSave,Xc.lAddi,Xc.lSw,Xc.lLw,Xc.lPop,Xc.lBnez,Xc.lRa,Xc.lSp,Xc.lRet,Xc.lLa ++ Xc.label0 Cb.tOne,Cb.l120,Xc.lLa ++ Cb.tAmp,Xc.lLi ++ Cb.tM5,Xc.lLi ++ Cb.tHun,
 Xc.lCall ++ Xc.label0 Cb.tOne,Xc.lCall ++ Xc.label0 Cb.tV,Xc.lCall ++ Xc.label0 Cb.tSeven,Xc.lCall ++ Xc.label0 Cb.tTwo]
def Cb.lb (n : Nat) : List UInt8:=Xc.lab [76] n
def Cb.I.text : Cb.I → List UInt8
 | .fix i=>Cb.fixT.getD i []
 | .j n=>Xc.lJ ++ Cb.lb n
 | .at_ n=>Cb.lb n ++ [58]
structure Cb.T where
 opens : List (List UInt8 × Nat)
 made : Nat
 code : List Cb.I
def Cb.add (T : Cb.T) (l : List Cb.I) : Cb.T:=⟨T.opens,T.made,T.code ++ l⟩
def Cb.T0 : Cb.T:=⟨[],0,[.fix 0,.fix 1]⟩
def Cb.op (i : Nat) (T : Cb.T) : Option Cb.T:=
 match i with
 | 0=>some ⟨(Xc.tIf,T.made) :: T.opens,T.made + 1,T.code ++ [.fix 4,.fix 5,.fix 6,.j T.made]⟩
 | 1=>match T.opens with
  | []=>none
  | (w,k) :: r=>if w = Xc.tIf then some ⟨(Xc.tElse,T.made) :: r,T.made + 1,T.code ++ [.j T.made,.at_ k]⟩ else none
 | 2=>match T.opens with
  | []=>none
  | (w,k) :: r=>if w = Xc.tIf ∨ w = Xc.tElse then some ⟨r,T.made,T.code ++ [.at_ k]⟩ else none
 | 3=>some ⟨(Xc.tBegin,T.made) :: T.opens,T.made + 1,T.code ++ [.at_ T.made]⟩
 | 4=>match T.opens with
  | []=>none
  | (w,k) :: r=>if w = Xc.tBegin then some ⟨(Xc.tWhile,T.made) :: (w,k) :: r,T.made + 1,T.code ++ [.fix 4,.fix 5,.fix 6,.j T.made]⟩ else none
 | 5=>match T.opens with
  | (w,k) :: (w2,k2) :: r=>if w = Xc.tWhile then some ⟨r,T.made,T.code ++ [.j k2,.at_ k]⟩ else none
  | _=>none
 | 6=>match T.opens with
  | []=>none
  | (w,k) :: r=>if w = Xc.tBegin then some ⟨r,T.made,T.code ++ [.fix 4,.fix 5,.fix 6,.j k]⟩ else none
 | 7=>match T.opens with
  | []=>none
  | (w,k) :: r=>if w = Xc.tBegin then some ⟨r,T.made,T.code ++ [.j k]⟩ else none
 | 8=>some (Cb.add T [.fix 7,.fix 8,.fix 9])
 | 9=>some (Cb.add T [.fix 18])
 | 10=>some (Cb.add T [.fix 10,.fix 2,.fix 3])
 | 11=>some (Cb.add T [.fix 11,.fix 2,.fix 3])
 | 12=>some (Cb.add T [.fix 12,.fix 2,.fix 3])
 | 13=>some (Cb.add T [.fix 15])
 | 14=>some (Cb.add T [.fix 13,.fix 2,.fix 3])
 | 15=>some (Cb.add T [.fix 14,.fix 2,.fix 3])
 | 16=>some (Cb.add T [.fix 16])
 | 17=>some (Cb.add T [.fix 17])
 | _=>none
def Cb.paired : List (List UInt8 × Nat) → Prop
 | []=>True
 | p :: r=>(p.1 = Xc.tWhile → ∃ k t,r = (Xc.tBegin,k) :: t) ∧ Cb.paired r
def Cb.labs : List Cb.I → List Nat
 | []=>[]
 | .at_ n :: r=>n :: Cb.labs r
 | _ :: r=>Cb.labs r
def Cb.refs : List Cb.I → List Nat
 | []=>[]
 | .j n :: r=>n :: Cb.refs r
 | _ :: r=>Cb.refs r
theorem Cb.labs_app : ∀ a b : List Cb.I,Cb.labs (a ++ b) = Cb.labs a ++ Cb.labs b
 | [],_=>rfl
 | .fix _ :: r,b=>Cb.labs_app r b
 | .j _ :: r,b=>Cb.labs_app r b
 | .at_ n :: r,b=>by show n :: Cb.labs (r ++ b) = _;rw [Cb.labs_app r b];rfl
theorem Cb.refs_app : ∀ a b : List Cb.I,Cb.refs (a ++ b) = Cb.refs a ++ Cb.refs b
 | [],_=>rfl
 | .fix _ :: r,b=>Cb.refs_app r b
 | .at_ _ :: r,b=>Cb.refs_app r b
 | .j n :: r,b=>by show n :: Cb.refs (r ++ b) = _;rw [Cb.refs_app r b];rfl
def Cb.pend : List (List UInt8 × Nat) → List Nat
 | []=>[]
 | (w,k) :: r=>if w = Xc.tBegin then Cb.pend r else k :: Cb.pend r
structure Cb.Ok (T : Cb.T) : Prop where
 pair : Cb.paired T.opens
 refs : ∀ n ∈ Cb.refs T.code,n ∈ Cb.labs T.code ∨ n ∈ Cb.pend T.opens
 once : (Cb.labs T.code ++ Cb.pend T.opens).Nodup
 lt : ∀ n ∈ Cb.labs T.code ++ Cb.pend T.opens,n < T.made
 back : ∀ p ∈ T.opens,p.1 = Xc.tBegin → p.2 ∈ Cb.labs T.code
 fix : ∀ i,Cb.I.fix i ∈ T.code → i < 19
theorem Cb.ok0 : Cb.Ok Cb.T0:=⟨trivial,fun n hn=>by simp [Cb.T0,Cb.refs] at hn,by simp [Cb.T0,Cb.labs,Cb.pend],fun n hn=>by simp [Cb.T0,Cb.labs,Cb.pend] at hn,fun p hp=>by simp [Cb.T0] at hp,fun i hi=>by
 simp [Cb.T0] at hi
 omega⟩
theorem Cb.Ok.add {T : Cb.T} (h : Cb.Ok T) (l : List Cb.I) (h1 : Cb.labs l = []) (h2 : Cb.refs l = []) (h3 : ∀ i,Cb.I.fix i ∈ l → i < 19) : Cb.Ok (Cb.add T l):=by
 have e1 : Cb.labs (T.code ++ l) = Cb.labs T.code:=by rw [Cb.labs_app,h1,List.append_nil]
 have e2 : Cb.refs (T.code ++ l) = Cb.refs T.code:=by rw [Cb.refs_app,h2,List.append_nil]
 refine ⟨h.pair,?_,?_,?_,?_,?_⟩
 ·show ∀ n ∈ Cb.refs (T.code ++ l),n ∈ Cb.labs (T.code ++ l) ∨ _
  rw [e1,e2];exact h.refs
 ·show (Cb.labs (T.code ++ l) ++ _).Nodup
  rw [e1];exact h.once
 ·show ∀ n ∈ Cb.labs (T.code ++ l) ++ _,_
  rw [e1];exact h.lt
 ·show ∀ p ∈ T.opens,_ → p.2 ∈ Cb.labs (T.code ++ l)
  rw [e1];exact h.back
 ·intro i hi
  rcases List.mem_append.1 hi with hi | hi
  ·exact h.fix i hi
  ·exact h3 i hi
theorem Cb.Ok.wait {T : Cb.T} (h : Cb.Ok T) (w : List UInt8) (l : List Cb.I) (hw : w ≠ Xc.tBegin) (hp : w = Xc.tWhile → ∃ k t,T.opens = (Xc.tBegin,k) :: t) (h1 : Cb.labs l = []) (h2 : Cb.refs l = [T.made]) (h3 : ∀ i,Cb.I.fix i ∈ l → i < 19) :
  Cb.Ok ⟨(w,T.made) :: T.opens,T.made + 1,T.code ++ l⟩:=by
 have e1 : Cb.labs (T.code ++ l) = Cb.labs T.code:=by rw [Cb.labs_app,h1,List.append_nil]
 have e2 : Cb.refs (T.code ++ l) = Cb.refs T.code ++ [T.made]:=by rw [Cb.refs_app,h2]
 have e3 : Cb.pend ((w,T.made) :: T.opens) = T.made :: Cb.pend T.opens:=by rw [Cb.pend,if_neg hw]
 refine ⟨⟨hp,h.pair⟩,?_,?_,?_,?_,?_⟩
 ·show ∀ n ∈ Cb.refs (T.code ++ l),n ∈ Cb.labs (T.code ++ l) ∨ n ∈ Cb.pend ((w,T.made) :: T.opens)
  rw [e1,e2,e3]
  intro n hn
  rcases List.mem_append.1 hn with hn | hn
  ·rcases h.refs n hn with hn | hn
   ·exact .inl hn
   ·exact .inr (List.mem_cons_of_mem _ hn)
  ·rw [List.mem_singleton.1 hn];exact .inr List.mem_cons_self
 ·show (Cb.labs (T.code ++ l) ++ Cb.pend ((w,T.made) :: T.opens)).Nodup
  rw [e1,e3]
  have hn : T.made ∉ Cb.labs T.code ++ Cb.pend T.opens:=fun hm=>absurd (h.lt _ hm) (Nat.lt_irrefl _)
  exact (List.perm_middle.nodup_iff).2 (List.nodup_cons.2 ⟨hn,h.once⟩)
 ·show ∀ n ∈ Cb.labs (T.code ++ l) ++ Cb.pend ((w,T.made) :: T.opens),n < T.made + 1
  rw [e1,e3]
  intro n hn
  rcases List.mem_cons.1 (List.perm_middle.mem_iff.1 hn) with hn | hn
  ·omega
  ·have:=h.lt n hn;omega
 ·show ∀ p ∈ (w,T.made) :: T.opens,_ → p.2 ∈ Cb.labs (T.code ++ l)
  rw [e1]
  intro p hp hb
  rcases List.mem_cons.1 hp with rfl | hp
  ·exact absurd hb hw
  ·exact h.back p hp hb
 ·intro i hi
  rcases List.mem_append.1 hi with hi | hi
  ·exact h.fix i hi
  ·exact h3 i hi
theorem Cb.Ok.here {T : Cb.T} (h : Cb.Ok T) {w : List UInt8} {k : Nat} {r : List (List UInt8 × Nat)} (ho : T.opens = (w,k) :: r) (hw : w ≠ Xc.tBegin) : Cb.Ok ⟨r,T.made,T.code ++ [.at_ k]⟩:=by
 have e1 : Cb.labs (T.code ++ [.at_ k]) = Cb.labs T.code ++ [k]:=Cb.labs_app _ _
 have e2 : Cb.refs (T.code ++ [.at_ k]) = Cb.refs T.code:=by rw [Cb.refs_app];simp [Cb.refs]
 have e3 : Cb.pend T.opens = k :: Cb.pend r:=by rw [ho,Cb.pend,if_neg hw]
 have hpr:=h.pair
 have hon:=h.once
 have hlt:=h.lt
 have hrf:=h.refs
 have hbk:=h.back
 rw [e3] at hon hlt hrf
 rw [ho] at hpr hbk
 refine ⟨hpr.2,?_,?_,?_,?_,?_⟩
 ·show ∀ n ∈ Cb.refs (T.code ++ [.at_ k]),n ∈ Cb.labs (T.code ++ [.at_ k]) ∨ n ∈ Cb.pend r
  rw [e1,e2]
  intro n hn
  rcases hrf n hn with hn | hn
  ·exact .inl (List.mem_append_left _ hn)
  ·rcases List.mem_cons.1 hn with rfl | hn
   ·exact .inl (List.mem_append_right _ (List.mem_singleton.2 rfl))
   ·exact .inr hn
 ·show (Cb.labs (T.code ++ [.at_ k]) ++ Cb.pend r).Nodup
  rw [e1,List.append_assoc];exact hon
 ·show ∀ n ∈ Cb.labs (T.code ++ [.at_ k]) ++ Cb.pend r,n < T.made
  rw [e1,List.append_assoc];exact hlt
 ·show ∀ p ∈ r,_ → p.2 ∈ Cb.labs (T.code ++ [.at_ k])
  rw [e1]
  intro p hp hb
  exact List.mem_append_left _ (hbk p (List.mem_cons_of_mem _ hp) hb)
 ·intro i hi
  rcases List.mem_append.1 hi with hi | hi
  ·exact h.fix i hi
  ·simp at hi
theorem Cb.Ok.begin {T : Cb.T} (h : Cb.Ok T) : Cb.Ok ⟨(Xc.tBegin,T.made) :: T.opens,T.made + 1,T.code ++ [.at_ T.made]⟩:=by
 have e1 : Cb.labs (T.code ++ [.at_ T.made]) = Cb.labs T.code ++ [T.made]:=Cb.labs_app _ _
 have e2 : Cb.refs (T.code ++ [.at_ T.made]) = Cb.refs T.code:=by rw [Cb.refs_app];simp [Cb.refs]
 have e3 : Cb.pend ((Xc.tBegin,T.made) :: T.opens) = Cb.pend T.opens:=by rw [Cb.pend,if_pos rfl]
 have ep : (Cb.labs T.code ++ [T.made] ++ Cb.pend T.opens).Perm (T.made :: (Cb.labs T.code ++ Cb.pend T.opens)):=by
  rw [List.append_assoc];exact List.perm_middle
 refine ⟨⟨fun e=>absurd e (show Xc.tBegin ≠ Xc.tWhile by decide),h.pair⟩,?_,?_,?_,?_,?_⟩
 ·show ∀ n ∈ Cb.refs (T.code ++ [.at_ T.made]),n ∈ Cb.labs (T.code ++ [.at_ T.made]) ∨ n ∈ Cb.pend ((Xc.tBegin,T.made) :: T.opens)
  rw [e1,e2,e3]
  intro n hn
  rcases h.refs n hn with hn | hn
  ·exact .inl (List.mem_append_left _ hn)
  ·exact .inr hn
 ·show (Cb.labs (T.code ++ [.at_ T.made]) ++ Cb.pend ((Xc.tBegin,T.made) :: T.opens)).Nodup
  rw [e1,e3,ep.nodup_iff,List.nodup_cons]
  exact ⟨fun hm=>absurd (h.lt _ hm) (Nat.lt_irrefl _),h.once⟩
 ·show ∀ n ∈ Cb.labs (T.code ++ [.at_ T.made]) ++ Cb.pend ((Xc.tBegin,T.made) :: T.opens),n < T.made + 1
  rw [e1,e3]
  intro n hn
  rcases List.mem_cons.1 (ep.mem_iff.1 hn) with hn | hn
  ·omega
  ·have:=h.lt n hn;omega
 ·show ∀ p ∈ (Xc.tBegin,T.made) :: T.opens,_ → p.2 ∈ Cb.labs (T.code ++ [.at_ T.made])
  rw [e1]
  intro p hp hb
  rcases List.mem_cons.1 hp with rfl | hp
  ·exact List.mem_append_right _ (List.mem_singleton.2 rfl)
  ·exact List.mem_append_left _ (h.back p hp hb)
 ·intro i hi
  rcases List.mem_append.1 hi with hi | hi
  ·exact h.fix i hi
  ·simp at hi
theorem Cb.Ok.again {T : Cb.T} (h : Cb.Ok T) {k : Nat} {r : List (List UInt8 × Nat)} (ho : T.opens = (Xc.tBegin,k) :: r) (l : List Cb.I) (h1 : Cb.labs l = []) (h2 : Cb.refs l = [k]) (h3 : ∀ i,Cb.I.fix i ∈ l → i < 19) : Cb.Ok ⟨r,T.made,T.code ++ l⟩:=by
 have e1 : Cb.labs (T.code ++ l) = Cb.labs T.code:=by rw [Cb.labs_app,h1,List.append_nil]
 have e2 : Cb.refs (T.code ++ l) = Cb.refs T.code ++ [k]:=by rw [Cb.refs_app,h2]
 have e3 : Cb.pend T.opens = Cb.pend r:=by rw [ho,Cb.pend,if_pos rfl]
 have hpr:=h.pair
 have hbk:=h.back
 have hrf:=h.refs
 have hon:=h.once
 have hlt:=h.lt
 rw [e3] at hrf hon hlt
 rw [ho] at hpr hbk
 refine ⟨hpr.2,?_,?_,?_,?_,?_⟩
 ·show ∀ n ∈ Cb.refs (T.code ++ l),n ∈ Cb.labs (T.code ++ l) ∨ n ∈ Cb.pend r
  rw [e1,e2]
  intro n hn
  rcases List.mem_append.1 hn with hn | hn
  ·exact hrf n hn
  ·rw [List.mem_singleton.1 hn]
   exact .inl (hbk _ List.mem_cons_self rfl)
 ·show (Cb.labs (T.code ++ l) ++ Cb.pend r).Nodup
  rw [e1];exact hon
 ·show ∀ n ∈ Cb.labs (T.code ++ l) ++ Cb.pend r,n < T.made
  rw [e1];exact hlt
 ·show ∀ p ∈ r,_ → p.2 ∈ Cb.labs (T.code ++ l)
  rw [e1]
  exact fun p hp hb=>hbk p (List.mem_cons_of_mem _ hp) hb
 ·intro i hi
  rcases List.mem_append.1 hi with hi | hi
  ·exact h.fix i hi
  ·exact h3 i hi
theorem Cb.op_ok {T T' : Cb.T} (i : Nat) (h : Cb.Ok T) (ho : Cb.op i T = some T') : Cb.Ok T':=by
 obtain ⟨opens,made,code⟩:=T
 match i with
 | 0=>
  cases ho
  exact h.wait Xc.tIf _ (by decide) (fun e=>absurd e (show Xc.tIf ≠ Xc.tWhile by decide)) rfl rfl (by simp)
 | 1=>
  match opens,h,ho with
  | (w,k) :: r,h,ho=>
   simp only [Cb.op] at ho
   split at ho
   ·rename_i e
    cases ho
    subst e
    have h1:=h.here rfl (show Xc.tIf ≠ Xc.tBegin by decide)
    have h2:=h1.wait Xc.tElse [.j made] (by decide) (fun e=>absurd e (show Xc.tElse ≠ Xc.tWhile by decide)) rfl rfl (by simp)
    have hk:=h.lt k (by simp [Cb.pend,show Xc.tIf ≠ Xc.tBegin by decide])
    refine ⟨h2.pair,?_,?_,?_,?_,?_⟩
    ·intro n hn
     have:=h2.refs n (by simpa [Cb.refs_app,Cb.refs] using hn)
     simpa [Cb.labs_app,Cb.labs] using this
    ·simpa [Cb.labs_app,Cb.labs] using h2.once
    ·intro n hn
     exact h2.lt n (by simpa [Cb.labs_app,Cb.labs] using hn)
    ·intro p hp hb
     have:=h2.back p hp hb
     simpa [Cb.labs_app,Cb.labs] using this
    ·intro i hi
     exact h.fix i (by simpa using hi)
   ·cases ho
 | 2=>
  match opens,h,ho with
  | (w,k) :: r,h,ho=>
   simp only [Cb.op] at ho
   split at ho
   ·rename_i e
    cases ho
    exact h.here rfl (by rcases e with rfl | rfl <;> decide)
   ·cases ho
 | 3=>cases ho;exact h.begin
 | 4=>
  match opens,h,ho with
  | (w,k) :: r,h,ho=>
   simp only [Cb.op] at ho
   split at ho
   ·rename_i e
    cases ho
    subst e
    exact h.wait Xc.tWhile _ (by decide) (fun _=>⟨k,r,rfl⟩) rfl rfl (by simp)
   ·cases ho
 | 5=>
  match opens,h,ho with
  | (w,k) :: (w2,k2) :: r,h,ho=>
   simp only [Cb.op] at ho
   split at ho
   ·rename_i e
    cases ho
    subst e
    obtain ⟨k',t,he⟩:=h.pair.1 rfl
    injection he with e1 e2
    injection e1 with e1 e3
    subst e1 e3
    have h1:=h.here rfl (show Xc.tWhile ≠ Xc.tBegin by decide)
    have h2:=h1.again rfl [.j k2] rfl rfl (by simp)
    refine ⟨h2.pair,?_,?_,?_,?_,?_⟩
    ·intro n hn
     have:=h2.refs n (by simpa [Cb.refs_app,Cb.refs] using hn)
     simpa [Cb.labs_app,Cb.labs] using this
    ·simpa [Cb.labs_app,Cb.labs] using h2.once
    ·intro n hn
     exact h2.lt n (by simpa [Cb.labs_app,Cb.labs] using hn)
    ·intro p hp hb
     have:=h2.back p hp hb
     simpa [Cb.labs_app,Cb.labs] using this
    ·intro i hi
     exact h.fix i (by simpa using hi)
   ·cases ho
  | [p],h,ho=>cases ho
  | [],h,ho=>cases ho
 | 6=>
  match opens,h,ho with
  | (w,k) :: r,h,ho=>
   simp only [Cb.op] at ho
   split at ho
   ·rename_i e
    cases ho
    subst e
    exact h.again rfl _ rfl rfl (by simp)
   ·cases ho
 | 7=>
  match opens,h,ho with
  | (w,k) :: r,h,ho=>
   simp only [Cb.op] at ho
   split at ho
   ·rename_i e
    cases ho
    subst e
    exact h.again rfl _ rfl rfl (by simp)
   ·cases ho
 | 8=>cases ho;exact h.add _ rfl rfl (by simp)
 | 9=>cases ho;exact h.add _ rfl rfl (by simp)
 | 10=>cases ho;exact h.add _ rfl rfl (by simp)
 | 11=>cases ho;exact h.add _ rfl rfl (by simp)
 | 12=>cases ho;exact h.add _ rfl rfl (by simp)
 | 13=>cases ho;exact h.add _ rfl rfl (by simp)
 | 14=>cases ho;exact h.add _ rfl rfl (by simp)
 | 15=>cases ho;exact h.add _ rfl rfl (by simp)
 | 16=>cases ho;exact h.add _ rfl rfl (by simp)
 | 17=>cases ho;exact h.add _ rfl rfl (by simp)
 | n + 18=>cases ho
theorem Cb.op_len {T T' : Cb.T} (i : Nat) (ho : Cb.op i T = some T') : T'.code.length ≤ T.code.length + 4 ∧ T'.made ≤ T.made + 1:=by
 obtain ⟨opens,made,code⟩:=T
 unfold Cb.op at ho
 dsimp only at ho
 split at ho
 all_goals (repeat' (split at ho))
 all_goals first
  | (cases ho;done)
  | (cases ho;simp [Cb.add])
end Go.Proofs.YtpcpaoeajcjoiaaGreatDoor
namespace Go.Proofs.YtpcpaoeajcjoiaaGreatDoor
def Cb.ops (o : List (List UInt8 × Nat)) : List (List UInt8 × List UInt8):=o.map fun p=>(p.1,Cb.lb p.2)
def Cb.toS (W0 : List Xc.W) (f : List UInt8) (T : Cb.T) : Xc.S:=⟨[],W0 ++ [⟨f,0,T.code.map Cb.I.text⟩],true,Cb.tTwo,Cb.ops T.opens,T.made,[]⟩
theorem Xc.upd_last (g : Xc.W → Xc.W) (w : Xc.W) : ∀ W0 : List Xc.W,Xc.upd g (W0 ++ [w]) = W0 ++ [g w]
 | []=>rfl
 | [a]=>rfl
 | a :: b :: t=>by
  have:=Xc.upd_last g w (b :: t)
  show Xc.upd g (a :: b :: (t ++ [w])) = _
  rw [Xc.upd]
  exact congrArg (a :: ·) this
theorem Cb.put_toS (W0 : List Xc.W) (f : List UInt8) (T : Cb.T) (ρ : List UInt8) (l : List Cb.I) : Xc.put (l.map Cb.I.text) (Xc.atRest ρ (Cb.toS W0 f T)) = Xc.atRest ρ (Cb.toS W0 f ⟨T.opens,T.made,T.code ++ l⟩):=by
 unfold Xc.put Xc.atRest Cb.toS Xc.add
 dsimp only
 rw [Xc.upd_last,List.map_append]
def Cb.res (W0 : List Xc.W) (f ρ : List UInt8) : Option Cb.T → Xc.R
 | some T=>.ok (Xc.atRest ρ (Cb.toS W0 f T))
 | none=>.bad 44
def Cb.wd (i : Nat) : List UInt8:=Cb.all.getD i []
theorem Cb.makes_no {w : List UInt8} (h : w ∉ [Xc.tColon,Xc.tColons,Xc.tVar,Xc.tVars,Xc.tCon,Xc.tCons]) : Xc.makes w = none:=by
 simp only [List.mem_cons,List.not_mem_nil,or_false,not_or] at h
 obtain ⟨h1,h2,h3,h4,h5,h6⟩:=h
 unfold Xc.makes
 rw [if_neg (fun e=>e.elim h1 h2),if_neg (fun e=>e.elim h3 h4),if_neg (fun e=>e.elim h5 h6)]
theorem Cb.begins_no {w : List UInt8} (S : Xc.S) (h : w ∉ [Xc.tBegin,Xc.tWhile,Xc.tIf]) : Xc.begins [76] w S = none:=by
 simp only [List.mem_cons,List.not_mem_nil,or_false,not_or] at h
 obtain ⟨h1,h2,h3⟩:=h
 unfold Xc.begins
 rw [if_neg h1,if_neg (fun e=>h2 e.1),if_neg (fun e=>e.elim h2 h3)]
theorem Cb.ends_no {w : List UInt8} (S : Xc.S) (h : w ∉ [Xc.tElse,Xc.tThen,Xc.tAgain,Xc.tUntil,Xc.tRepeat]) : Xc.ends [76] w S = none:=by
 simp only [List.mem_cons,List.not_mem_nil,or_false,not_or] at h
 obtain ⟨h1,h2,h3,h4,h5⟩:=h
 unfold Xc.ends
 rw [if_neg h1,if_neg h2,if_neg h3,if_neg h4,if_neg h5]
theorem Cb.one_plain {w : List UInt8} {S : Xc.S} (hin : S.within = true) (h1 : w ∉ [Xc.tBegin,Xc.tWhile,Xc.tIf]) (h2 : w ∉ [Xc.tElse,Xc.tThen,Xc.tAgain,Xc.tUntil,Xc.tRepeat]) (h3 : w ∉ [Xc.tColon,Xc.tColons,Xc.tVar,Xc.tVars,Xc.tCon,Xc.tCons]) : Xc.one [76] w S = Xc.inside2 w S:=by
 unfold Xc.one
 rw [if_pos hin]
 unfold Xc.inside
 rw [Cb.begins_no S h1,Cb.ends_no S h2,Cb.makes_no h3]
theorem Cb.other_in {w : List UInt8} {S : Xc.S} (h : w ∉ [Xc.tSemi,Xc.tExit,Xc.tRec,Xc.tText,Xc.tTick,Xc.tChar]) : Xc.inside2 w S = .ok (Xc.other w S):=by
 simp only [List.mem_cons,List.not_mem_nil,or_false,not_or] at h
 obtain ⟨h1,h2,h3,h4,h5,h6⟩:=h
 unfold Xc.inside2
 rw [if_neg h1,if_neg h2,if_neg h3,if_neg h4,if_neg (fun e=>e.elim h5 h6)]
theorem Cb.push_toS (W0 : List Xc.W) (f : List UInt8) (T : Cb.T) (ρ how : List UInt8) (i : Nat) (h : Cb.fixT.getD i [] = how) : Xc.push how (Xc.atRest ρ (Cb.toS W0 f T)) = Xc.atRest ρ (Cb.toS W0 f (Cb.add T [.fix i,.fix 2,.fix 3])):=by
 unfold Cb.add
 rw [← Cb.put_toS]
 unfold Xc.push
 rw [← h]
 rfl
theorem Cb.nums : (L6.number Cb.tAmp).2 = false ∧ (L6.number Cb.tOne).2 = false ∧ (L6.number Cb.tM5).2 = true ∧ (L6.number Cb.tHun).2 = true ∧ (L6.number Cb.tV).2 = false ∧ (L6.number Cb.tSeven).2 = false:=by decide +kernel
theorem Cb.dec120 : Lib.decDigits 120 = [49,50,48]:=by decide +kernel
theorem Cb.close_nil (kinds : List (List UInt8)) (S : Xc.S) (h : S.opens = []) : Xc.close kinds S = none:=by unfold Xc.close;rw [h]
theorem Cb.close_cons (kinds : List (List UInt8)) (S : Xc.S) {w k : List UInt8} {r : List (List UInt8 × List UInt8)} (h : S.opens = (w,k) :: r) : Xc.close kinds S = if w ∈ kinds then some (k,Xc.shut r S) else none:=by unfold Xc.close;rw [h]
theorem Cb.one_op (W0 : List Xc.W) (f ρ : List UInt8) (T : Cb.T) (hT : Cb.paired T.opens) (i : Nat) (hi : i < 18) (h10 : i ≠ 10) (h11 : i ≠ 11) : Xc.one [76] (Cb.wd i) (Xc.atRest ρ (Cb.toS W0 f T)) = Cb.res W0 f ρ (Cb.op i T):=by
 obtain ⟨opens,made,code⟩:=T
 have hin : (Xc.atRest ρ (Cb.toS W0 f ⟨opens,made,code⟩)).within = true:=rfl
 have hop : (Xc.atRest ρ (Cb.toS W0 f ⟨opens,made,code⟩)).opens = Cb.ops opens:=rfl
 match i,hi,h10,h11 with
 | 0,_,_,_=>
  show Xc.one [76] Xc.tIf _ = _
  unfold Xc.one Xc.inside Xc.begins
  rw [if_pos hin,if_neg (show ¬ Xc.tIf = Xc.tBegin by decide),if_neg (fun e=>absurd e.1 (show ¬ Xc.tIf = Xc.tWhile by decide)),if_pos (.inr rfl)]
  show Xc.R.ok (Xc.wait Xc.tIf _ (Xc.put ([Cb.I.fix 4,.fix 5,.fix 6,.j made].map Cb.I.text) (Xc.atRest ρ (Cb.toS W0 f ⟨opens,made + 1,code⟩)))) = _
  rw [Cb.put_toS]
  rfl
 | 1,_,_,_=>
  show Xc.one [76] Xc.tElse _ = _
  unfold Xc.one Xc.inside
  rw [if_pos hin,Cb.begins_no _ (by decide)]
  unfold Xc.ends
  dsimp only
  rw [if_pos rfl]
  cases opens with
  | nil=>rw [Cb.close_nil _ _ hop];rfl
  | cons p r=>
   obtain ⟨w,k⟩:=p
   rw [Cb.close_cons _ _ hop]
   simp only [Cb.op,List.mem_singleton]
   by_cases e : w = Xc.tIf
   ·rw [if_pos e,if_pos e]
    show Xc.R.ok (Xc.wait Xc.tElse (Cb.lb made) (Xc.put ([Cb.I.j made,.at_ k].map Cb.I.text) (Xc.atRest ρ (Cb.toS W0 f ⟨r,made + 1,code⟩)))) = _
    rw [Cb.put_toS]
    rfl
   ·rw [if_neg e,if_neg e];rfl
 | 2,_,_,_=>
  show Xc.one [76] Xc.tThen _ = _
  unfold Xc.one Xc.inside
  rw [if_pos hin,Cb.begins_no _ (by decide)]
  unfold Xc.ends
  dsimp only
  rw [if_neg (show ¬ Xc.tThen = Xc.tElse by decide),if_pos rfl]
  cases opens with
  | nil=>rw [Cb.close_nil _ _ hop];rfl
  | cons p r=>
   obtain ⟨w,k⟩:=p
   rw [Cb.close_cons _ _ hop]
   simp only [Cb.op,List.mem_cons,List.not_mem_nil,or_false]
   by_cases e : w = Xc.tIf ∨ w = Xc.tElse
   ·rw [if_pos e,if_pos e]
    show Xc.R.ok (Xc.put ([Cb.I.at_ k].map Cb.I.text) (Xc.atRest ρ (Cb.toS W0 f ⟨r,made,code⟩))) = _
    rw [Cb.put_toS]
    rfl
   ·rw [if_neg e,if_neg e];rfl
 | 3,_,_,_=>
  show Xc.one [76] Xc.tBegin _ = _
  unfold Xc.one Xc.inside Xc.begins
  rw [if_pos hin,if_pos rfl]
  show Xc.R.ok (Xc.wait Xc.tBegin _ (Xc.put ([Cb.I.at_ made].map Cb.I.text) (Xc.atRest ρ (Cb.toS W0 f ⟨opens,made + 1,code⟩)))) = _
  rw [Cb.put_toS]
  rfl
 | 4,_,_,_=>
  show Xc.one [76] Xc.tWhile _ = _
  unfold Xc.one Xc.inside Xc.begins
  rw [if_pos hin,if_neg (show ¬ Xc.tWhile = Xc.tBegin by decide)]
  cases opens with
  | nil=>rw [if_pos ⟨rfl,by rw [hop];decide⟩];rfl
  | cons p r=>
   obtain ⟨w,k⟩:=p
   have he : ((Xc.atRest ρ (Cb.toS W0 f ⟨(w,k) :: r,made,code⟩)).opens.head?.map fun p=>p.1) = some w:=rfl
   rw [he]
   simp only [Cb.op]
   by_cases e : w = Xc.tBegin
   ·rw [if_neg (fun h=>h.2 (by rw [e])),if_pos (.inl trivial),if_pos e]
    show Xc.R.ok (Xc.wait Xc.tWhile _ (Xc.put ([Cb.I.fix 4,.fix 5,.fix 6,.j made].map Cb.I.text) (Xc.atRest ρ (Cb.toS W0 f ⟨(w,k) :: r,made + 1,code⟩)))) = _
    rw [Cb.put_toS]
    rfl
   ·rw [if_pos ⟨trivial,fun h=>e (by injection h)⟩,if_neg e];rfl
 | 5,_,_,_=>
  show Xc.one [76] Xc.tRepeat _ = _
  unfold Xc.one Xc.inside
  rw [if_pos hin,Cb.begins_no _ (by decide)]
  unfold Xc.ends
  dsimp only
  rw [if_neg (show ¬ Xc.tRepeat = Xc.tElse by decide),if_neg (show ¬ Xc.tRepeat = Xc.tThen by decide),if_neg (show ¬ Xc.tRepeat = Xc.tAgain by decide),if_neg (show ¬ Xc.tRepeat = Xc.tUntil by decide),if_pos rfl]
  cases opens with
  | nil=>rw [Cb.close_nil _ _ hop];rfl
  | cons p r=>
   obtain ⟨w,k⟩:=p
   rw [Cb.close_cons _ _ hop]
   simp only [List.mem_singleton]
   by_cases e : w = Xc.tWhile
   ·obtain ⟨k2,t,hr⟩:=hT.1 e
    subst hr
    rw [if_pos e]
    have hb : Xc.back (Xc.shut (Cb.ops ((Xc.tBegin,k2) :: t)) (Xc.atRest ρ (Cb.toS W0 f ⟨(w,k) :: (Xc.tBegin,k2) :: t,made,code⟩))) = (Cb.lb k2,Xc.atRest ρ (Cb.toS W0 f ⟨t,made,code⟩)):=by
     unfold Xc.back
     rw [Cb.close_cons [Xc.tBegin] _ (show (Xc.shut (Cb.ops ((Xc.tBegin,k2) :: t)) (Xc.atRest ρ (Cb.toS W0 f ⟨(w,k) :: (Xc.tBegin,k2) :: t,made,code⟩))).opens = (Xc.tBegin,Cb.lb k2) :: Cb.ops t from rfl),if_pos (by simp)]
     rfl
    show Xc.R.ok (Xc.put [Xc.lJ ++ (Xc.back _).1,Cb.lb k ++ [58]] (Xc.back _).2) = _
    rw [show List.map (fun p=>(p.1,Cb.lb p.2)) ((Xc.tBegin,k2) :: t) = Cb.ops ((Xc.tBegin,k2) :: t) from rfl,hb]
    simp only [Cb.op]
    rw [if_pos e]
    show Xc.R.ok (Xc.put ([Cb.I.j k2,.at_ k].map Cb.I.text) (Xc.atRest ρ (Cb.toS W0 f ⟨t,made,code⟩))) = _
    rw [Cb.put_toS]
    rfl
   ·rw [if_neg e]
    cases r with
    | nil=>rfl
    | cons q t=>
     simp only [Cb.op]
     rw [if_neg e]
     rfl
 | 6,_,_,_=>
  show Xc.one [76] Xc.tUntil _ = _
  unfold Xc.one Xc.inside
  rw [if_pos hin,Cb.begins_no _ (by decide)]
  unfold Xc.ends
  dsimp only
  rw [if_neg (show ¬ Xc.tUntil = Xc.tElse by decide),if_neg (show ¬ Xc.tUntil = Xc.tThen by decide),if_neg (show ¬ Xc.tUntil = Xc.tAgain by decide),if_pos rfl]
  cases opens with
  | nil=>rw [Cb.close_nil _ _ hop];rfl
  | cons p r=>
   obtain ⟨w,k⟩:=p
   rw [Cb.close_cons _ _ hop]
   simp only [Cb.op,List.mem_singleton]
   by_cases e : w = Xc.tBegin
   ·rw [if_pos e,if_pos e]
    show Xc.R.ok (Xc.put ([Cb.I.fix 4,.fix 5,.fix 6,.j k].map Cb.I.text) (Xc.atRest ρ (Cb.toS W0 f ⟨r,made,code⟩))) = _
    rw [Cb.put_toS]
    rfl
   ·rw [if_neg e,if_neg e];rfl
 | 7,_,_,_=>
  show Xc.one [76] Xc.tAgain _ = _
  unfold Xc.one Xc.inside
  rw [if_pos hin,Cb.begins_no _ (by decide)]
  unfold Xc.ends
  dsimp only
  rw [if_neg (show ¬ Xc.tAgain = Xc.tElse by decide),if_neg (show ¬ Xc.tAgain = Xc.tThen by decide),if_pos rfl]
  cases opens with
  | nil=>rw [Cb.close_nil _ _ hop];rfl
  | cons p r=>
   obtain ⟨w,k⟩:=p
   rw [Cb.close_cons _ _ hop]
   simp only [Cb.op,List.mem_singleton]
   by_cases e : w = Xc.tBegin
   ·rw [if_pos e,if_pos e]
    show Xc.R.ok (Xc.put ([Cb.I.j k].map Cb.I.text) (Xc.atRest ρ (Cb.toS W0 f ⟨r,made,code⟩))) = _
    rw [Cb.put_toS]
    rfl
   ·rw [if_neg e,if_neg e];rfl
 | 8,_,_,_=>
  show Xc.one [76] Xc.tExit _ = _
  rw [Cb.one_plain hin (by decide) (by decide) (by decide)]
  unfold Xc.inside2
  rw [if_neg (show ¬ Xc.tExit = Xc.tSemi by decide),if_pos rfl]
  show Xc.R.ok (Xc.put ([Cb.I.fix 7,.fix 8,.fix 9].map Cb.I.text) (Xc.atRest ρ (Cb.toS W0 f ⟨opens,made,code⟩))) = _
  rw [Cb.put_toS]
  rfl
 | 9,_,_,_=>
  show Xc.one [76] Xc.tRec _ = _
  rw [Cb.one_plain hin (by decide) (by decide) (by decide)]
  unfold Xc.inside2
  rw [if_neg (show ¬ Xc.tRec = Xc.tSemi by decide),if_neg (show ¬ Xc.tRec = Xc.tExit by decide),if_pos rfl]
  show Xc.R.ok (Xc.put ([Cb.I.fix 18].map Cb.I.text) (Xc.atRest ρ (Cb.toS W0 f ⟨opens,made,code⟩))) = _
  rw [Cb.put_toS]
  rfl
 | 12,_,_,_=>
  show Xc.one [76] Cb.tAmp _ = _
  rw [Cb.one_plain hin (by decide) (by decide) (by decide),Cb.other_in (by decide)]
  unfold Xc.other
  rw [if_neg (by rw [Cb.nums.1];decide),if_pos (by decide),Cb.push_toS W0 f _ ρ (Xc.lLa ++ Cb.tAmp) 12 rfl]
  rfl
 | 13,_,_,_=>
  show Xc.one [76] Cb.tOne _ = _
  rw [Cb.one_plain hin (by decide) (by decide) (by decide),Cb.other_in (by decide)]
  unfold Xc.other
  rw [if_neg (by rw [Cb.nums.2.1];decide),if_neg (by decide)]
  show Xc.R.ok (Xc.put ([Cb.I.fix 15].map Cb.I.text) (Xc.atRest ρ (Cb.toS W0 f ⟨opens,made,code⟩))) = _
  rw [Cb.put_toS]
  rfl
 | 14,_,_,_=>
  show Xc.one [76] Cb.tM5 _ = _
  rw [Cb.one_plain hin (by decide) (by decide) (by decide),Cb.other_in (by decide)]
  unfold Xc.other
  rw [if_pos Cb.nums.2.2.1,Cb.push_toS W0 f _ ρ (Xc.lLi ++ Cb.tM5) 13 rfl]
  rfl
 | 15,_,_,_=>
  show Xc.one [76] Cb.tHun _ = _
  rw [Cb.one_plain hin (by decide) (by decide) (by decide),Cb.other_in (by decide)]
  unfold Xc.other
  rw [if_pos Cb.nums.2.2.2.1,Cb.push_toS W0 f _ ρ (Xc.lLi ++ Cb.tHun) 14 rfl]
  rfl
 | 16,_,_,_=>
  show Xc.one [76] Cb.tV _ = _
  rw [Cb.one_plain hin (by decide) (by decide) (by decide),Cb.other_in (by decide)]
  unfold Xc.other
  rw [if_neg (by rw [Cb.nums.2.2.2.2.1];decide),if_neg (by decide)]
  show Xc.R.ok (Xc.put ([Cb.I.fix 16].map Cb.I.text) (Xc.atRest ρ (Cb.toS W0 f ⟨opens,made,code⟩))) = _
  rw [Cb.put_toS]
  rfl
 | 17,_,_,_=>
  show Xc.one [76] Cb.tSeven _ = _
  rw [Cb.one_plain hin (by decide) (by decide) (by decide),Cb.other_in (by decide)]
  unfold Xc.other
  rw [if_neg (by rw [Cb.nums.2.2.2.2.2];decide),if_neg (by decide)]
  show Xc.R.ok (Xc.put ([Cb.I.fix 17].map Cb.I.text) (Xc.atRest ρ (Cb.toS W0 f ⟨opens,made,code⟩))) = _
  rw [Cb.put_toS]
  rfl
 | n + 18,h,_,_=>omega
theorem Cb.one_take (W0 : List Xc.W) (f ρ : List UInt8) (hρ : ρ = [] ∨ ρ.headD 0 = 32) (T : Cb.T) : Xc.one [76] Xc.tTick (Xc.atRest (32 :: (Cb.tOne ++ ρ)) (Cb.toS W0 f T)) = Cb.res W0 f ρ (Cb.op 10 T) ∧ Xc.one [76] Xc.tChar (Xc.atRest (32 :: (Cb.tX ++ ρ)) (Cb.toS W0 f T)) = Cb.res W0 f ρ (Cb.op 11 T):=by
 have sk : ∀ s : List UInt8,Xc.skip (32 :: s) = Xc.skip s:=fun s=>by unfold Xc.skip;rw [List.dropWhile_cons,if_pos Xc.gap32]
 have hw : ∀ s : List UInt8,Xc.word (32 :: s) = Xc.word s ∧ Xc.rest (32 :: s) = Xc.rest s:=fun s=>by unfold Xc.word Xc.rest;rw [sk];exact ⟨rfl,rfl⟩
 have es : ∀ x,(Xc.atRest x (Cb.toS W0 f T)).s = x:=fun _=>rfl
 have ea : ∀ x y,Xc.atRest x (Xc.atRest y (Cb.toS W0 f T)) = Xc.atRest x (Cb.toS W0 f T):=fun _ _=>rfl
 obtain ⟨a1,a2⟩:=Xc.word_of (w:=Cb.tOne) ρ (by decide) (by decide) hρ
 obtain ⟨b1,b2⟩:=Xc.word_of (w:=Cb.tX) ρ (by decide) (by decide) hρ
 constructor
 ·rw [Cb.one_plain rfl (by decide) (by decide) (by decide)]
  unfold Xc.inside2
  rw [if_neg (show ¬ Xc.tTick = Xc.tSemi by decide),if_neg (show ¬ Xc.tTick = Xc.tExit by decide),if_neg (show ¬ Xc.tTick = Xc.tRec by decide),if_neg (show ¬ Xc.tTick = Xc.tText by decide),if_pos (.inl rfl)]
  unfold Xc.quoted
  rw [es,(hw _).1,(hw _).2,a1,a2,if_neg (by decide),if_pos rfl,ea,Cb.push_toS W0 f _ ρ (Xc.lLa ++ Xc.label0 Cb.tOne) 10 rfl]
  rfl
 ·rw [Cb.one_plain rfl (by decide) (by decide) (by decide)]
  unfold Xc.inside2
  rw [if_neg (show ¬ Xc.tChar = Xc.tSemi by decide),if_neg (show ¬ Xc.tChar = Xc.tExit by decide),if_neg (show ¬ Xc.tChar = Xc.tRec by decide),if_neg (show ¬ Xc.tChar = Xc.tText by decide),if_pos (.inr rfl)]
  unfold Xc.quoted
  rw [es,(hw _).1,(hw _).2,b1,b2,if_neg (by decide),if_neg (show ¬ Xc.tChar = Xc.tTick by decide),ea,show ((Cb.tX.getD 0 0).toNat) = 120 from rfl,Cb.dec120,Cb.push_toS W0 f _ ρ (Xc.lLi ++ [49,50,48]) 11 rfl]
  rfl
theorem Cb.fine_wd (i : Nat) (hi : i < 18) (h10 : i ≠ 10) (h11 : i ≠ 11) : Xc.Fine (Cb.wd i):=by
 match i,hi,h10,h11 with
 | 0,_,_,_=>exact ⟨by decide,by decide,by decide,by decide,by decide,by decide⟩
 | 1,_,_,_=>exact ⟨by decide,by decide,by decide,by decide,by decide,by decide⟩
 | 2,_,_,_=>exact ⟨by decide,by decide,by decide,by decide,by decide,by decide⟩
 | 3,_,_,_=>exact ⟨by decide,by decide,by decide,by decide,by decide,by decide⟩
 | 4,_,_,_=>exact ⟨by decide,by decide,by decide,by decide,by decide,by decide⟩
 | 5,_,_,_=>exact ⟨by decide,by decide,by decide,by decide,by decide,by decide⟩
 | 6,_,_,_=>exact ⟨by decide,by decide,by decide,by decide,by decide,by decide⟩
 | 7,_,_,_=>exact ⟨by decide,by decide,by decide,by decide,by decide,by decide⟩
 | 8,_,_,_=>exact ⟨by decide,by decide,by decide,by decide,by decide,by decide⟩
 | 9,_,_,_=>exact ⟨by decide,by decide,by decide,by decide,by decide,by decide⟩
 | 12,_,_,_=>exact ⟨by decide,by decide,by decide,by decide,by decide,by decide⟩
 | 13,_,_,_=>exact ⟨by decide,by decide,by decide,by decide,by decide,by decide⟩
 | 14,_,_,_=>exact ⟨by decide,by decide,by decide,by decide,by decide,by decide⟩
 | 15,_,_,_=>exact ⟨by decide,by decide,by decide,by decide,by decide,by decide⟩
 | 16,_,_,_=>exact ⟨by decide,by decide,by decide,by decide,by decide,by decide⟩
 | 17,_,_,_=>exact ⟨by decide,by decide,by decide,by decide,by decide,by decide⟩
 | n + 18,h,_,_=>omega
theorem Cb.tick_fine : Xc.Fine Xc.tTick ∧ Xc.Fine Xc.tChar:=⟨⟨by decide,by decide,by decide,by decide,by decide,by decide⟩,⟨by decide,by decide,by decide,by decide,by decide,by decide⟩⟩
theorem Cb.line_word (W0 : List Xc.W) (f ρ : List UInt8) (hρ : ρ = [] ∨ ρ.headD 0 = 32) (T : Cb.T) (hT : Cb.paired T.opens) (i : Nat) (hi : i < 18) (n : Nat) :
  Xc.line [76] (n + 1) (Xc.atRest (32 :: (Cb.wd i ++ ρ)) (Cb.toS W0 f T)) = match Cb.op i T with | some T1=>Xc.line [76] n (Xc.atRest ρ (Cb.toS W0 f T1)) | none=>.bad 44:=by
 rw [Xc.line_skip rfl]
 by_cases h10 : i = 10
 ·subst h10
  rw [show Cb.wd 10 ++ ρ = Xc.tTick ++ (32 :: (Cb.tOne ++ ρ)) from by show (Xc.tTick ++ 32 :: Cb.tOne) ++ ρ = _;simp,Xc.line_step Cb.tick_fine.1 (.inr rfl),(Cb.one_take W0 f ρ hρ T).1]
  cases Cb.op 10 T <;> rfl
 ·by_cases h11 : i = 11
  ·subst h11
   rw [show Cb.wd 11 ++ ρ = Xc.tChar ++ (32 :: (Cb.tX ++ ρ)) from by show (Xc.tChar ++ 32 :: Cb.tX) ++ ρ = _;simp,Xc.line_step Cb.tick_fine.2 (.inr rfl),(Cb.one_take W0 f ρ hρ T).2]
   cases Cb.op 11 T <;> rfl
  ·rw [Xc.line_step (Cb.fine_wd i hi h10 h11) hρ,Cb.one_op W0 f ρ T hT i hi h10 h11]
   cases Cb.op i T <;> rfl
def Cb.run : List Nat → Cb.T → Option Cb.T
 | [],T=>some T
 | i :: r,T=>match Cb.op i T with | some T1=>Cb.run r T1 | none=>none
def Cb.src (l : List Nat) : List UInt8:=l.flatMap fun i=>32 :: Cb.wd i
theorem Cb.src_head (l : List Nat) (ρ : List UInt8) (hρ : ρ = [] ∨ ρ.headD 0 = 32) : Cb.src l ++ ρ = [] ∨ (Cb.src l ++ ρ).headD 0 = 32:=by
 cases l with
 | nil=>exact hρ
 | cons i r=>exact .inr rfl
theorem Cb.run_ok : ∀ (l : List Nat) {T T' : Cb.T},Cb.Ok T → Cb.run l T = some T' → Cb.Ok T' ∧ T'.code.length ≤ T.code.length + 4 * l.length ∧ T'.made ≤ T.made + l.length
 | [],T,T',h,hr=>by cases hr;exact ⟨h,by simp,by simp⟩
 | i :: r,T,T',h,hr=>by
  unfold Cb.run at hr
  split at hr
  ·rename_i T1 h1
   obtain ⟨a,b,c⟩:=Cb.run_ok r (Cb.op_ok i h h1) hr
   obtain ⟨d,e⟩:=Cb.op_len i h1
   exact ⟨a,by rw [List.length_cons];omega,by rw [List.length_cons];omega⟩
  ·cases hr
theorem Cb.line_words (W0 : List Xc.W) (f ρ : List UInt8) (hρ : ρ = [] ∨ ρ.headD 0 = 32) (n : Nat) : ∀ (l : List Nat) (T : Cb.T),(∀ i ∈ l,i < 18) → Cb.Ok T →
  Xc.line [76] (n + l.length) (Xc.atRest (Cb.src l ++ ρ) (Cb.toS W0 f T)) = match Cb.run l T with | some T1=>Xc.line [76] n (Xc.atRest ρ (Cb.toS W0 f T1)) | none=>.bad 44
 | [],T,_,_=>rfl
 | i :: r,T,h,hT=>by
  show Xc.line [76] (n + r.length + 1) (Xc.atRest ((32 :: Cb.wd i ++ Cb.src r) ++ ρ) (Cb.toS W0 f T)) = _
  rw [show (32 :: Cb.wd i ++ Cb.src r) ++ ρ = 32 :: (Cb.wd i ++ (Cb.src r ++ ρ)) by simp,Cb.line_word W0 f _ (Cb.src_head r ρ hρ) T hT.pair i (h i (by simp)),Cb.run]
  cases ho : Cb.op i T with
  | none=>rfl
  | some T1=>
   dsimp only
   exact Cb.line_words W0 f ρ hρ n r T1 (fun j hj=>h j (by simp [hj])) (Cb.op_ok i hT ho)
def Cb.tail : List UInt8:=[32,59,32,73,77,77,69,68,73,65,84,69]
def Cb.word (f : List UInt8) (T : Cb.T) : Xc.W:=⟨f,1,(T.code ++ [Cb.I.fix 7,.fix 8,.fix 9]).map Cb.I.text⟩
theorem Cb.fine_semi : Xc.Fine Xc.tSemi ∧ Xc.Fine Xc.tImm:=⟨⟨by decide,by decide,by decide,by decide,by decide,by decide⟩,⟨by decide,by decide,by decide,by decide,by decide,by decide⟩⟩
theorem Cb.line_tail (W0 : List Xc.W) (f : List UInt8) (hf : f ≠ []) (n : Nat) (T : Cb.T) : Xc.line [76] (n + 3) (Xc.atRest Cb.tail (Cb.toS W0 f T)) = if T.opens = [] then .ok ⟨[],W0 ++ [Cb.word f T],false,Cb.tTwo,[],T.made,[]⟩ else .bad 44:=by
 have e1 : Cb.tail = 32 :: (Xc.tSemi ++ (32 :: Xc.tImm)):=rfl
 rw [e1,Xc.line_skip rfl,Xc.line_step Cb.fine_semi.1 (.inr rfl),Cb.one_plain rfl (by decide) (by decide) (by decide)]
 unfold Xc.inside2
 rw [if_pos rfl]
 by_cases ho : T.opens = []
 ·rw [if_pos ho,if_neg (show ¬ (Xc.atRest (32 :: Xc.tImm) (Cb.toS W0 f T)).opens ≠ [] from fun h=>h (by show Cb.ops T.opens = [];rw [ho];rfl))]
  have e2 : Xc.leave (Xc.inIt false (Xc.atRest (32 :: Xc.tImm) (Cb.toS W0 f T))) = Xc.atRest (32 :: Xc.tImm) ⟨[],W0 ++ [⟨f,0,(T.code ++ [Cb.I.fix 7,.fix 8,.fix 9]).map Cb.I.text⟩],false,Cb.tTwo,[],T.made,[]⟩:=by
   have h:=Cb.put_toS W0 f T (32 :: Xc.tImm) [.fix 7,.fix 8,.fix 9]
   have h2:=congrArg (fun S=>Xc.inIt false S) h
   have ho2 : Cb.ops T.opens = []:=by rw [ho];rfl
   refine Eq.trans h2 ?_
   unfold Xc.inIt Xc.atRest Cb.toS
   dsimp only
   rw [ho2]
  dsimp only
  rw [e2,Xc.line_skip rfl]
  have h3:=Xc.line_step (tag:=[76]) (ρ:=[]) Cb.fine_semi.2 (.inl rfl) (n + 1) ⟨[],W0 ++ [⟨f,0,(T.code ++ [Cb.I.fix 7,.fix 8,.fix 9]).map Cb.I.text⟩],false,Cb.tTwo,[],T.made,[]⟩
  rw [List.append_nil] at h3
  rw [h3]
  have h4 : Xc.one [76] Xc.tImm (Xc.atRest [] ⟨[],W0 ++ [⟨f,0,(T.code ++ [Cb.I.fix 7,.fix 8,.fix 9]).map Cb.I.text⟩],false,Cb.tTwo,[],T.made,[]⟩) = .ok (Xc.atRest [] ⟨[],W0 ++ [Cb.word f T],false,Cb.tTwo,[],T.made,[]⟩):=by
   unfold Xc.one
   rw [if_neg (by show ¬ false = true;decide)]
   unfold Xc.top
   rw [Cb.makes_no (by decide)]
   dsimp only
   rw [if_neg (fun h=>h rfl),if_pos rfl]
   unfold Xc.flag Xc.num Xc.atRest
   dsimp only
   rw [List.getLast?_concat]
   dsimp only
   rw [if_neg hf,Xc.upd_last]
   unfold Xc.flagW Cb.word
   dsimp only
   rw [show (0 ||| 1 : Nat) = 1 by decide]
  rw [h4]
  dsimp only
  rw [Xc.line_end]
  rfl
 ·rw [if_neg ho,if_pos (show (Xc.atRest (32 :: Xc.tImm) (Cb.toS W0 f T)).opens ≠ [] from fun h=>ho (by
   have h : Cb.ops T.opens = []:=h
   unfold Cb.ops at h
   exact List.map_eq_nil_iff.1 h))]
end Go.Proofs.YtpcpaoeajcjoiaaGreatDoor
