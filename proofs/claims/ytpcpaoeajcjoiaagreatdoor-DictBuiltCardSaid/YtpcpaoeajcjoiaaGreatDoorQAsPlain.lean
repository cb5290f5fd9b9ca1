/- Texts joined, what is not reached left out. -/
import Derived.Test.YtpcpaoeajcjoiaaGreatDoorKU
import Derived.Test.YtpcpaoeajcjoiaaGreatDoorIC
import Derived.Test.YtpcpaoeajcjoiaaGreatDoorIP
set_option linter.unusedVariables false
set_option linter.unusedSimpArgs false
namespace Go.Proofs.YtpcpaoeajcjoiaaGreatDoor
structure As.P where
 code:Bool
 inst:Is.Inst
 bytes:List UInt8
 kind:Nat
 name:List UInt8
 src:List UInt8
def As.no:Is.Inst:=⟨0,0,0,0,0⟩
structure As.L where
 l:List (List UInt8)
 ok:Bool
 p:List As.P
def As.next (x:As.L):List UInt8 × As.L:=match x.l with
 | []=>([],⟨[],false,x.p⟩)
 | s :: t=>(s,⟨t,x.ok,x.p⟩)
def As.sat (b:Bool) (x:As.L):As.L:=⟨x.l,x.ok && b,x.p⟩
def As.put (p:As.P) (x:As.L):As.L:=⟨x.l,x.ok,x.p ++ [p]⟩
def As.reg (x:As.L):Nat × As.L:=((L6.regV (As.next x).1).1,As.sat (L6.regV (As.next x).1).2 (As.next x).2)
def As.num (x:As.L):Int × As.L:=((L6.number (As.next x).1).1,As.sat (L6.number (As.next x).1).2 (As.next x).2)
def As.symbol (s:List UInt8):Bool:=!(L6.number s).2 && (!(L6.regV s).2 && (!s.isEmpty && s.headD 0 != 34))
def As.name (x:As.L):List UInt8 × As.L:=((As.next x).1,As.sat (As.symbol (As.next x).1) (As.next x).2)
def As.either (x:As.L):(Int × List UInt8) × As.L:=match x.l with
 | []=>((0,(As.name x).1),(As.name x).2)
 | s :: t=>if (L6.number s).2 = true then (((L6.number s).1,[]),⟨t,x.ok,x.p⟩) else ((0,(As.name x).1),(As.name x).2)
def As.code (i:Is.Inst) (x:As.L):As.L:=As.put ⟨true,i,[],0,[],[]⟩ x
def As.imm (i:Is.Inst) (n:Int):Is.Inst:=⟨i.op,i.rd,i.rs1,i.rs2,n⟩
def As.to (i:Is.Inst) (x:As.L):As.L:=
 As.put ⟨true,As.imm i (As.either x).1.1,[],if (As.either x).1.2 = [] then 0 else 1,(As.either x).1.2,[]⟩ (As.either x).2
def As.lo (n:Int):Int:=(n+2048) % 4096 - 2048
def As.hi (n:Int):Int:=(n - As.lo n) / 4096 % 1048576
def As.inst (op:Int) (x:As.L):As.L:=
 if Is.shape op = 0 then As.code ⟨op,(As.reg x).1,0,0,(As.num (As.reg x).2).1⟩ (As.num (As.reg x).2).2
 else if Is.shape op = 1 then As.to ⟨op,(As.reg x).1,0,0,0⟩ (As.reg x).2
 else if Is.shape op = 3 then As.to ⟨op,0,(As.reg x).1,(As.reg (As.reg x).2).1,0⟩ (As.reg (As.reg x).2).2
 else if Is.shape op = 4 then As.code ⟨op,0,(As.reg (As.num (As.reg x).2).2).1,(As.reg x).1,(As.num (As.reg x).2).1⟩ (As.reg (As.num (As.reg x).2).2).2
 else if Is.shape op = 6 then As.code ⟨op,(As.reg x).1,(As.reg (As.reg x).2).1,(As.reg (As.reg (As.reg x).2).2).1,0⟩ (As.reg (As.reg (As.reg x).2).2).2
 else if Is.shape op = 8 then As.code ⟨op,0,0,0,(As.num x).1⟩ (As.num x).2
 else if Is.shape op = 7 then As.code ⟨op,0,0,0,0⟩ x
 else if op≤14 then As.code ⟨op,(As.reg x).1,(As.reg (As.num (As.reg x).2).2).1,0,(As.num (As.reg x).2).1⟩ (As.reg (As.num (As.reg x).2).2).2
 else As.code ⟨op,(As.reg x).1,(As.reg (As.reg x).2).1,0,(As.num (As.reg (As.reg x).2).2).1⟩ (As.num (As.reg (As.reg x).2).2).2
def As.number (d:Int) (n:Int) (x:As.L):As.L:=
 if -2048≤n∧n < 2048 then As.code ⟨18,d,0,0,n⟩ x
 else As.code ⟨18,d,d,0,As.lo n⟩ (As.code ⟨0,d,0,0,As.hi n⟩ x)
def As.tLi:List UInt8:=[108,105]
def As.tLa:List UInt8:=[108,97]
def As.tMv:List UInt8:=[109,118]
def As.tNop:List UInt8:=[110,111,112]
def As.tRet:List UInt8:=[114,101,116]
def As.tCall:List UInt8:=[99,97,108,108]
def As.tJ:List UInt8:=[106]
def As.tNot:List UInt8:=[110,111,116]
def As.tNeg:List UInt8:=[110,101,103]
def As.tBeqz:List UInt8:=[98,101,113,122]
def As.tBnez:List UInt8:=[98,110,101,122]
def As.tWord:List UInt8:=[119,111,114,100]
def As.tByte:List UInt8:=[98,121,116,101]
def As.tText:List UInt8:=[116,101,120,116]
def As.tSpace:List UInt8:=[115,112,97,99,101]
def As.tAlign:List UInt8:=[97,108,105,103,110]
def As.tSpan:List UInt8:=[115,112,97,110]
def As.pseudo (w:List UInt8) (x:As.L):Option As.L:=
 if w = As.tLi then some (As.number (As.reg x).1 (As.num (As.reg x).2).1 (As.num (As.reg x).2).2)
 else if w = As.tLa then some (As.put ⟨true,⟨18,(As.reg x).1,(As.reg x).1,0,0⟩,[],3,(As.name (As.reg x).2).1,[]⟩ (As.put ⟨true,⟨0,(As.reg x).1,0,0,0⟩,[],2,(As.name (As.reg x).2).1,[]⟩ (As.name (As.reg x).2).2))
 else if w = As.tMv then some (As.code ⟨18,(As.reg x).1,(As.reg (As.reg x).2).1,0,0⟩ (As.reg (As.reg x).2).2)
 else if w = As.tNop then some (As.code ⟨18,0,0,0,0⟩ x)
 else if w = As.tRet then some (As.code ⟨3,0,1,0,0⟩ x)
 else if w = As.tCall then some (As.to ⟨2,1,0,0,0⟩ x)
 else if w = As.tJ then some (As.to ⟨2,0,0,0,0⟩ x)
 else if w = As.tNot then some (As.code ⟨21,(As.reg x).1,(As.reg (As.reg x).2).1,0,-1⟩ (As.reg (As.reg x).2).2)
 else if w = As.tNeg then some (As.code ⟨28,(As.reg x).1,0,(As.reg (As.reg x).2).1,0⟩ (As.reg (As.reg x).2).2)
 else if w = As.tBeqz then some (As.to ⟨4,0,(As.reg x).1,0,0⟩ (As.reg x).2)
 else if w = As.tBnez then some (As.to ⟨5,0,(As.reg x).1,0,0⟩ (As.reg x).2)
 else none
def As.four (v:Nat):List UInt8:=[UInt8.ofNat v,UInt8.ofNat (v / 256),UInt8.ofNat (v / 65536),UInt8.ofNat (v / 16777216)]
def As.bits (n:Int):Nat:=(n % 4294967296).toNat
def As.word1 (x:As.L):As.L:=As.put ⟨false,As.no,As.four (As.bits (As.either x).1.1),if (As.either x).1.2 = [] then 0 else 4,(As.either x).1.2,[]⟩ (As.either x).2
def As.byte1 (x:As.L):As.L:=
 As.put ⟨false,As.no,[UInt8.ofNat ((As.num x).1 % 256).toNat],0,[],[]⟩ (As.sat (decide (-128≤(As.num x).1) && decide ((As.num x).1≤255)) (As.num x).2)
def As.loop (f:As.L→As.L):Nat→As.L→As.L
 | 0,x=>x
 | n+1,x=>if (f x).l = [] then f x else As.loop f n (f x)
def As.raw (b:List UInt8):As.P:=⟨false,As.no,b,0,[],[]⟩
def As.textOk (s:List UInt8):Bool:=decide (1 < s.length) && s.headD 0 == 34
def As.spaceOk (n:Int):Bool:=decide (0≤n) && decide (n≤131072)
def As.data (w:List UInt8) (at_:Nat) (x:As.L):Option As.L:=
 if w = As.tWord then some (As.loop As.word1 (x.l.length+1) x)
 else if w = As.tByte then some (As.loop As.byte1 (x.l.length+1) x)
 else if w = As.tText then some (if (As.next x).2.ok && As.textOk (As.next x).1 then As.put (As.raw (((As.next x).1.take ((As.next x).1.length - 1)).drop 1)) (As.sat (As.textOk (As.next x).1) (As.next x).2) else As.sat (As.textOk (As.next x).1) (As.next x).2)
 else if w = As.tSpace then some (if (As.num x).2.ok && As.spaceOk (As.num x).1 then As.put (As.raw (List.replicate (As.num x).1.toNat 0)) (As.sat (As.spaceOk (As.num x).1) (As.num x).2) else As.sat (As.spaceOk (As.num x).1) (As.num x).2)
 else if w = As.tAlign then some (As.put (As.raw (List.replicate ((4 - at_ % 4) % 4) 0)) x)
 else if w = As.tSpan then some (As.put ⟨false,As.no,[0,0,0,0],5,(As.name (As.name x).2).1,(As.name x).1⟩ (As.name (As.name x).2).2)
 else none
def As.read (w:List UInt8) (at_:Nat) (x:As.L):Option As.L:=
 if Is.isName ⟨w.toArray⟩ = true then some (As.inst (Is.found ⟨w.toArray⟩) x)
 else match As.pseudo w x with
  | some y=>some y
  | none=>As.data w at_ x
def As.done (x:As.L):Option (List As.P):=if x.ok = true∧x.l = [] then some x.p else none
def As.pieces (l:L6.Line) (at_:Nat):Option (List As.P):=
 if l.word = [] then some []
 else match As.read l.word at_ ⟨l.args,true,[]⟩ with
  | none=>none
  | some y=>As.done y
def As.size1 (p:As.P):Nat:=p.bytes.length+(if p.code then 4 else 0)
def As.size (l:List As.P):Nat:=(l.map As.size1).sum
def As.labels (at_:Nat):List (List UInt8)→List (List UInt8 × Nat)→Option (List (List UInt8 × Nat))
 | [],sy=>some sy
 | s :: t,sy=>if (sy.any fun p=>p.1 == s) = true then none else As.labels at_ t (sy ++ [(s,at_)])
inductive As.R (α:Type) where
 | bad (n e:Nat)
 | ok (v:α)
def As.lead (p:List As.P):Bool:=match p with | []=>false | x :: _=>x.code
def As.at32 (a:Nat):Nat:=a % 4294967296
def As.first (at_:Nat):Nat→Nat→List (List UInt8 × Nat)→List L6.Line→As.R (List (List UInt8 × Nat))
 | _,_,sy,[]=>.ok sy
 | i,here,sy,l :: r=>
  match As.labels (As.at32 (at_+here)) l.labels sy with
  | none=>.bad (i+1) 42
  | some sy1=>match As.pieces l (As.at32 (at_+here)) with
   | none=>.bad (i+1) 40
   | some p=>
    if As.lead p = true∧As.at32 (at_+here) % 4 ≠ 0 then .bad (i+1) 30
    else if 131072 < here+As.size p then .bad (i+1) 6
    else As.first at_ (i+1) (here+As.size p) sy1 r
def As.look (sy:List (List UInt8 × Nat)) (s:List UInt8):Option Nat:=(sy.find? fun p=>p.1 == s).map fun p=>p.2
def As.s32 (v:Nat):Int:=if v < 2147483648 then (v:Int) else (v:Int) - 4294967296
def As.aim (p:As.P) (v at_:Nat):Is.Inst × Nat:=
 if p.kind = 1 then (As.imm p.inst (As.s32 (As.bits ((v:Int) - (at_:Int)))),43)
 else if p.kind = 2 then (As.imm p.inst (As.hi (As.s32 v)),20)
 else if p.kind = 3 then (As.imm p.inst (As.lo (As.s32 v)),20)
 else (p.inst,20)
def As.piece (sy:List (List UInt8 × Nat)) (p:As.P) (at_:Nat):List UInt8 × Nat:=
 if p.kind = 0∧p.code = false then (p.bytes,0)
 else if p.kind ≠ 0∧As.look sy p.name = none then ([],41)
 else if p.kind = 5 then (match As.look sy p.src with
  | none=>([],41)
  | some w=>(As.four (As.bits (((As.look sy p.name).getD 0:Int) - (w:Int))),0))
 else if p.kind = 4 then (As.four ((As.look sy p.name).getD 0),0)
 else if (Is.enc (As.aim p ((As.look sy p.name).getD 0) at_).1).2 = 0 then (As.four (Is.enc (As.aim p ((As.look sy p.name).getD 0) at_).1).1.toNat,0)
 else ([],(As.aim p ((As.look sy p.name).getD 0) at_).2)
def As.puts (sy:List (List UInt8 × Nat)) (at_:Nat):List As.P→List UInt8→List UInt8 × Nat
 | [],b=>(b,0)
 | p :: r,b=>
  if (As.piece sy p (As.at32 (at_+b.length))).2 = 0 then As.puts sy at_ r (b ++ (As.piece sy p (As.at32 (at_+b.length))).1)
  else (b,(As.piece sy p (As.at32 (at_+b.length))).2)
def As.second (sy:List (List UInt8 × Nat)) (at_:Nat):Nat→List UInt8→List L6.Line→As.R (List UInt8)
 | _,b,[]=>.ok b
 | i,b,l :: r=>
  if (As.puts sy at_ ((As.pieces l (As.at32 (at_+b.length))).getD []) b).2 = 0 then As.second sy at_ (i+1) (As.puts sy at_ ((As.pieces l (As.at32 (at_+b.length))).getD []) b).1 r
  else .bad (i+1) (As.puts sy at_ ((As.pieces l (As.at32 (at_+b.length))).getD []) b).2
structure As.O where
 bytes:List UInt8
 syms:List (List UInt8 × Nat)
 line:Nat
 err:Nat
def As.passes (l:List L6.Line) (at_:Nat):As.O:=match As.first at_ 0 0 [] l with
 | .bad n e=>⟨[],[],n,e⟩
 | .ok sy=>match As.second sy at_ 0 [] l with
  | .bad n e=>⟨[],[],n,e⟩
  | .ok b=>⟨b,sy,0,0⟩
def As.assemble (l:List L6.Line) (at_:Nat):As.O:=if 32768 < l.length ∨ at_ % 4 ≠ 0 then ⟨[],[],0,6⟩ else As.passes l at_
end Go.Proofs.YtpcpaoeajcjoiaaGreatDoor
