/- Texts joined, what is not reached left out. -/
import Derived.Test.YtpcpaoeajcjoiaaGreatDoorMS
import Derived.Test.YtpcpaoeajcjoiaaGreatDoorLT
import Derived.Test.YtpcpaoeajcjoiaaGreatDoorKC
import Derived.Test.YtpcpaoeajcjoiaaGreatDoorPA
set_option linter.unusedVariables false
set_option linter.unusedSimpArgs false
namespace Go.Proofs.YtpcpaoeajcjoiaaGreatDoor
def As.Sized (a:Nat):Nat→List (L6.Line × List UInt8)→Prop
 | _,[]=>True
 | here,(x,bs) :: r=>(∃ p,As.pieces x (As.at32 (a+here)) = some p∧As.size p = bs.length∧(As.lead p = true→As.at32 (a+here) % 4 = 0))∧here+bs.length≤131072∧As.Sized a (here+bs.length) r
def As.Laid (sy:List (List UInt8 × Nat)) (a:Nat):Nat→List (L6.Line × List UInt8)→Prop
 | _,[]=>True
 | here,(x,bs) :: r=>(∃ p,As.pieces x (As.at32 (a+here)) = some p∧∀ b:List UInt8,b.length = here→As.puts sy a p b = (b ++ bs,0))∧As.Laid sy a (here+bs.length) r
def As.symsAt (a:Nat):Nat→List (L6.Line × List UInt8)→List (List UInt8 × Nat)
 | _,[]=>[]
 | here,(x,bs) :: r=>x.labels.map (fun s=>(s,As.at32 (a+here))) ++ As.symsAt a (here+bs.length) r
theorem As.labels_map (a:Nat):∀ (t:List (List UInt8)) (sy:List (List UInt8 × Nat)),As.labels a t sy = none ∨ As.labels a t sy = some (sy ++ t.map fun s=>(s,a))
 | [],sy=>.inr (by simp [As.labels])
 | s :: t,sy=>by
  unfold As.labels
  split
  ·exact .inl rfl
  ·rcases As.labels_map a t (sy ++ [(s,a)]) with h | h
   ·exact .inl h
   ·exact .inr (by rw [h];simp)
theorem As.first_sized (a:Nat):∀ (L:List (L6.Line × List UInt8)) (i here:Nat) (sy:List (List UInt8 × Nat)),As.Sized a here L →
  (∃ n,As.first a i here sy (L.map fun p=>p.1) = .bad n 42) ∨ As.first a i here sy (L.map fun p=>p.1) = .ok (sy ++ As.symsAt a here L)
 | [],i,here,sy,_=>.inr (by simp [As.first,As.symsAt])
 | (x,bs) :: r,i,here,sy,⟨⟨p,h1,h2,h3⟩,h4,h5⟩=>by
  rw [List.map_cons,As.first]
  rcases As.labels_map (As.at32 (a+here)) x.labels sy with h | h
  ·rw [h];exact .inl ⟨_,rfl⟩
  ·rw [h]
   dsimp only
   rw [h1]
   dsimp only
   rw [if_neg (fun e=>e.2 (h3 e.1)),if_neg (by omega),h2]
   rcases As.first_sized a r (i+1) (here+bs.length) (sy ++ x.labels.map fun s=>(s,As.at32 (a+here))) h5 with g | g
   ·exact .inl g
   ·exact .inr (by rw [g,As.symsAt,List.append_assoc])
theorem As.second_laid (sy:List (List UInt8 × Nat)) (a:Nat):∀ (L:List (L6.Line × List UInt8)) (i:Nat) (b:List UInt8),As.Laid sy a b.length L →
  As.second sy a i b (L.map fun p=>p.1) = .ok (b ++ L.flatMap fun p=>p.2)
 | [],i,b,_=>by simp [As.second]
 | (x,bs) :: r,i,b,⟨⟨p,h1,h2⟩,h3⟩=>by
  rw [List.map_cons,As.second]
  dsimp only
  rw [h1,Option.getD_some,h2 b rfl,if_pos rfl]
  dsimp only
  rw [As.second_laid sy a r (i+1) (b ++ bs) (by rw [List.length_append];exact h3)]
  simp
theorem As.assemble_laid {a:Nat} {L:List (L6.Line × List UInt8)} (ha:a % 4 = 0) (hl:L.length≤32768) (h1:As.Sized a 0 L) (h2:(As.keys (As.symsAt a 0 L)).Nodup→As.Laid (As.symsAt a 0 L) a 0 L) :
  (∃ n,As.assemble (L.map fun p=>p.1) a = ⟨[],[],n,42⟩) ∨ ((As.keys (As.symsAt a 0 L)).Nodup∧As.assemble (L.map fun p=>p.1) a = ⟨L.flatMap fun p=>p.2,As.symsAt a 0 L,0,0⟩):=by
 unfold As.assemble
 rw [if_neg (by rw [List.length_map];omega)]
 unfold As.passes
 rcases As.first_sized a L 0 0 [] h1 with ⟨n,g⟩ | g
 ·rw [g];exact .inl ⟨n,rfl⟩
 ·rw [g]
  rw [List.nil_append] at g
  have hn:=As.first_nodup (by simp [As.keys]) g
  refine .inr ⟨hn,?_⟩
  dsimp only
  rw [List.nil_append,As.second_laid _ a L 0 [] (h2 hn)]
  simp
theorem As.look_of {sy:List (List UInt8 × Nat)}:∀ {s:List UInt8} {v:Nat},(As.keys sy).Nodup→(s,v) ∈ sy→As.look sy s = some v:=by
 induction sy with
 | nil=>intro s v _ h;cases h
 | cons q t ih=>
  intro s v hn h
  unfold As.keys at hn
  rw [List.map_cons,List.nodup_cons] at hn
  unfold As.look
  rw [List.find?_cons]
  rcases List.mem_cons.1 h with h | h
  ·subst h;simp
  ·have hne:(q.1 == s) = false:=by
    rw [beq_eq_false_iff_ne]
    intro e
    exact hn.1 (List.mem_map.2 ⟨(s,v),h,e.symm⟩)
   rw [hne]
   exact ih hn.2 h
end Go.Proofs.YtpcpaoeajcjoiaaGreatDoor
namespace Go.Proofs.YtpcpaoeajcjoiaaGreatDoor
open Go.RowKit Kit
theorem L6.note_two (l:List UInt8):L6.note l = (decide (1 < l.length) && (l.getD 0 0 == 47) && (l.getD 1 0 == 47)):=by
 match l with
 | []=>rfl
 | [a]=>by_cases h:a = 47 <;> simp [L6.note,h]
 | a :: b :: t=>
  by_cases h:a = 47
  ·by_cases h':b = 47
   ·subst h h';rfl
   ·subst h;simp [L6.note,h']
  ·simp [L6.note,h]
theorem L6.label_at (l:List UInt8) (h:1 < l.length):L6.label l = ((l.getD (l.length - 1) 0 == 58) && (l.getD 0 0 != 34)):=by
 unfold L6.label
 rw [decide_eq_true h,Bool.true_and]
 have e1:l.getLastD 0 = l.getD (l.length - 1) 0:=by
  rcases List.eq_nil_or_concat l with rfl | ⟨t,d,rfl⟩
  ·simp at h
  ·rw [List.concat_eq_append];simp [List.getD]
 have e2:l.headD 0 = l.getD 0 0:=by cases l <;> simp [List.getD]
 rw [e1,e2]
theorem L6.whole_ne {s:List UInt8} (h:L6.whole s = true):s ≠ []:=by
 rintro rfl
 revert h
 decide
theorem L6.split_free:∀ {p t:List UInt8},10 ∉ p→L6.split (p ++ 10 :: t) = p :: L6.split t
 | [],t,_=>by simp [L6.split_cons]
 | c :: p,t,h=>by
  have hc:c ≠ 10:=fun e=>h (by simp [e])
  have hp:10 ∉ p:=fun e=>h (by simp [e])
  rw [List.cons_append,L6.split_cons,if_neg hc,L6.split_free hp]
theorem L6.quote_app:∀ {t a b:List UInt8} (r:List UInt8),L6.quote t = some (a,b)→L6.quote (t ++ r) = some (a,b ++ r)
 | [],a,b,r,h=>by simp [L6.quote] at h
 | c :: t,a,b,r,h=>by
  unfold L6.quote at h
  rw [List.cons_append]
  unfold L6.quote
  by_cases hc:c = 34
  ·rw [if_pos hc] at h ⊢
   cases h
   rfl
  ·rw [if_neg hc] at h ⊢
   cases hq:L6.quote t with
   | none=>rw [hq] at h;cases h
   | some p=>
    obtain ⟨a',b'⟩:=p
    rw [hq] at h
    rw [L6.quote_app r hq]
    cases h
    rfl
theorem L6.word_app:∀ {w r:List UInt8},(∀ c ∈ w,L6.blank c = false)→L6.free r = true→L6.word (w ++ r) = w∧L6.behind (w ++ r) = r
 | [],r,_,hr=>by
  cases r with
  | nil=>exact ⟨rfl,rfl⟩
  | cons c t=>
   have hc:L6.blank c = true:=hr
   simp [L6.word,L6.behind,hc]
 | c :: w,r,h,hr=>by
  have hc:=h c (by simp)
  obtain ⟨h1,h2⟩:=L6.word_app (w:=w) (r:=r) (fun d hd=>h d (by simp [hd])) hr
  rw [List.cons_append]
  simp [L6.word,L6.behind,hc,h1,h2]
theorem L6.word_all:∀ {w:List UInt8},L6.word w = w→∀ c ∈ w,L6.blank c = false
 | [],_,c,hc=>by simp at hc
 | d :: w,h,c,hc=>by
  unfold L6.word at h
  cases hb:L6.blank d
  ·rw [hb] at h
   simp only [Bool.false_eq_true,if_false,List.cons.injEq,true_and] at h
   rcases List.mem_cons.1 hc with rfl | hc
   ·exact hb
   ·exact L6.word_all h c hc
  ·rw [hb] at h
   simp at h
structure L6.Wd (w:List UInt8):Prop where
 ne:w ≠ []
 head:∀ r,L6.bare (w ++ r) = w ++ r
 next:∀ r,L6.free r = true→L6.next (w ++ r) = (w,r,true)
 note:L6.note w = false
theorem L6.bare_suffix:∀ (l:List UInt8),(L6.bare l).length = l.length→L6.bare l = l
 | [],_=>rfl
 | c :: t,h=>by
  unfold L6.bare at h ⊢
  split
  ·rename_i hb
   rw [if_pos hb] at h
   have:=L6.bare_len t
   simp at h
   omega
  ·rfl
theorem L6.next_prefix (c:UInt8) (t:List UInt8):(L6.next (c :: t)).2.2 = true→(L6.next (c :: t)).1 ++ (L6.next (c :: t)).2.1 = c :: t:=by
 intro h
 by_cases hc:c = 34
 ·rw [L6.next_quote hc] at h ⊢
  cases hq:L6.quote t with
  | none=>rw [hq] at h;simp at h
  | some p=>
   rw [hc]
   show 34 :: p.1 ++ p.2 = _
   rw [List.cons_append,L6.quote_len t p hq]
 ·rw [L6.next_plain hc]
  exact L6.word_behind _
theorem L6.one_word {w:List UInt8} (h:L6.wordsOf w = some [w]):L6.next w = (w,[],true)∧L6.bare w = w∧w ≠ []∧L6.note w = false:=by
 cases hb:L6.bare w with
 | nil=>rw [L6.wordsOf_bare w hb] at h;simp at h
 | cons c t=>
  rw [L6.wordsOf_next w c t hb] at h
  split at h
  ·simp at h
  ·rename_i hn
   split at h
   ·rename_i hok
    cases hr:L6.wordsOf (L6.next (c :: t)).2.1 with
    | none=>rw [hr] at h;cases h
    | some r=>
     rw [hr] at h
     simp only [Option.map_some,Option.some.injEq,List.cons.injEq] at h
     obtain ⟨h1,rfl⟩:=h
     have hp:=L6.next_prefix c t hok
     have hl:=congrArg List.length hp
     rw [h1,List.length_append] at hl
     have hbl:=L6.bare_len w
     rw [hb] at hbl
     have h0:(L6.next (c :: t)).2.1.length = 0:=by omega
     have h2:(L6.next (c :: t)).2.1 = []:=List.eq_nil_of_length_eq_zero h0
     have hbw:L6.bare w = w:=L6.bare_suffix w (by rw [hb];omega)
     have hw:w = c :: t:=hbw.symm.trans hb
     have e:L6.next (c :: t) = (w,[],true):=by
      rw [show L6.next (c :: t) = ((L6.next (c :: t)).1,(L6.next (c :: t)).2.1,(L6.next (c :: t)).2.2) from rfl,h1,h2,hok]
     refine ⟨by rw [← hw] at e;exact e,hw.symm,by rw [hw];simp,?_⟩
     rw [h1] at hn
     simpa using hn
   ·cases h
theorem L6.head_plain {w:List UInt8} {c:UInt8} {t:List UInt8} (hw:w = c :: t) (hb:L6.blank c = false) (r:List UInt8):L6.bare (w ++ r) = w ++ r:=by
 rw [hw,List.cons_append]
 unfold L6.bare
 rw [if_neg (by simp [hb])]
theorem L6.wd_of {w:List UInt8} (h:L6.wordsOf w = some [w]):L6.Wd w:=by
 obtain ⟨hn,hb,hne,hnt⟩:=L6.one_word h
 cases w with
 | nil=>exact absurd rfl hne
 | cons c t=>
  have hbl:L6.blank c = false:=L6.bare_head hb
  refine ⟨hne,L6.head_plain rfl hbl,fun r hr=>?_,hnt⟩
  by_cases hc:c = 34
  ·rw [L6.next_quote hc] at hn
   cases hq:L6.quote t with
   | none=>rw [hq] at hn;simp at hn
   | some p=>
    obtain ⟨a,b⟩:=p
    rw [hq] at hn
    simp only [Prod.mk.injEq,List.cons.injEq] at hn
    obtain ⟨⟨_,rfl⟩,rfl,_⟩:=hn
    rw [List.cons_append,L6.next_quote hc,L6.quote_app r hq]
    simp [hc,hr]
  ·rw [L6.next_plain hc] at hn
   simp only [Prod.mk.injEq] at hn
   obtain ⟨h1,h2⟩:=L6.word_app (r:=r) (L6.word_all hn.1) hr
   rw [List.cons_append,L6.next_plain hc,← List.cons_append,h1,h2]
theorem L6.note_app {l:List UInt8} (h:L6.note l = false) (hne:l ≠ []):L6.note (l ++ [58]) = false:=by
 match l,h,hne with
 | [],_,hne=>exact absurd rfl hne
 | [a],h,_=>
  by_cases ha:a = 47
  ·subst ha;rfl
  ·unfold L6.note;split
   ·rename_i heq;simp at heq
   ·rfl
 | a :: b :: t,h,_=>
  rw [L6.note_two] at h ⊢
  simpa using h
theorem L6.wd_label {l:List UInt8} (h:L6.wordsOf l = some [l]) (hq:L6.quoted l = false):L6.Wd (l ++ [58]):=by
 obtain ⟨hn,hb,hne,hnt⟩:=L6.one_word h
 cases l with
 | nil=>exact absurd rfl hne
 | cons c t=>
  have hbl:L6.blank c = false:=L6.bare_head hb
  have hc:c ≠ 34:=by
   rintro rfl
   unfold L6.quoted Lib.hasPrefix at hq
   simp [List.isPrefixOf] at hq
  rw [L6.next_plain hc] at hn
  simp only [Prod.mk.injEq] at hn
  have hall:∀ d ∈ c :: t ++ [58],L6.blank d = false:=by
   intro d hd
   rcases List.mem_append.1 hd with hd | hd
   ·exact L6.word_all hn.1 d hd
   ·simp at hd;subst hd;rfl
  refine ⟨by simp,L6.head_plain (w:=c :: t ++ [58]) (c:=c) (t:=t ++ [58]) rfl hbl,fun r hr=>?_,L6.note_app hnt (by simp)⟩
  obtain ⟨h1,h2⟩:=L6.word_app (r:=r) hall hr
  have e:c :: t ++ [58] ++ r = c :: (t ++ [58] ++ r):=by simp
  rw [e,L6.next_plain hc,← e,h1,h2]
theorem L6.wordsOf_skip (c:UInt8) (l:List UInt8) (hc:L6.blank c = true):L6.wordsOf (c :: l) = L6.wordsOf l:=by
 have e:L6.bare (c :: l) = L6.bare l:=by
  conv=>lhs;unfold L6.bare
  rw [if_pos hc]
 cases hb:L6.bare l with
 | nil=>rw [L6.wordsOf_bare l hb,L6.wordsOf_bare (c :: l) (e.trans hb)]
 | cons d t=>rw [L6.wordsOf_next l d t hb,L6.wordsOf_next (c :: l) d t (e.trans hb)]
theorem L6.wordsOf_wd {x r:List UInt8} (h:L6.Wd x) (hr:L6.free r = true):L6.wordsOf (x ++ r) = (L6.wordsOf r).map (x :: ·):=by
 have hb:=h.head r
 cases hx:x ++ r with
 | nil=>exact absurd (List.append_eq_nil_iff.1 hx).1 h.ne
 | cons c t=>
  have hn:=h.next r hr
  rw [hx] at hb hn
  rw [L6.wordsOf_next (c :: t) c t hb,hn]
  simp [h.note]
theorem L6.joinTail_free (t:List (List UInt8)):L6.free (Lib.joinTail [32] t) = true:=by
 cases t with
 | nil=>rfl
 | cons x r=>simp [Lib.joinTail,L6.free,L6.blank]
theorem L6.wordsOf_joinTail:∀ {ws:List (List UInt8)},(∀ x ∈ ws,L6.Wd x)→L6.wordsOf (Lib.joinTail [32] ws) = some ws
 | [],_=>by rw [show Lib.joinTail [32] [] = [] from rfl];exact L6.wordsOf_bare [] rfl
 | x :: t,h=>by
  have e:Lib.joinTail [32] (x :: t) = 32 :: (x ++ Lib.joinTail [32] t):=by simp [Lib.joinTail]
  rw [e,L6.wordsOf_skip 32 _ rfl,L6.wordsOf_wd (h x (by simp)) (L6.joinTail_free t),L6.wordsOf_joinTail fun y hy=>h y (by simp [hy])]
  rfl
theorem L6.wordsOf_join {ws:List (List UInt8)} (h:∀ x ∈ ws,L6.Wd x):L6.wordsOf (Lib.join ws [32]) = some ws:=by
 cases ws with
 | nil=>exact L6.wordsOf_bare [] rfl
 | cons x t=>
  rw [Lib.join_cons,L6.wordsOf_wd (h x (by simp)) (L6.joinTail_free t),L6.wordsOf_joinTail fun y hy=>h y (by simp [hy])]
  rfl
theorem L6.right_parts {x:L6.Line} (h:L6.right x = true):(∀ s ∈ x.labels,L6.whole s = true∧L6.quoted s = false)∧(∀ s ∈ x.args,L6.whole s = true)∧(x.word = []→x.args = [])∧(x.word ≠ []→L6.whole x.word = true∧L6.label x.word = false):=by
 have h1:x.labels.any (fun s=>!L6.whole s) = false:=by
  cases hh:x.labels.any (fun s=>!L6.whole s)
  ·rfl
  ·rw [L6.right_labels hh] at h;cases h
 have h2:x.labels.any L6.quoted = false:=by
  cases hh:x.labels.any L6.quoted
  ·rfl
  ·rw [L6.right_quoted hh] at h;cases h
 have h3:x.args.any (fun s=>!L6.whole s) = false:=by
  cases hh:x.args.any (fun s=>!L6.whole s)
  ·rfl
  ·rw [L6.right_args hh] at h;cases h
 have hr:=L6.right_rest h1 h2 h3
 rw [List.any_eq_false] at h1 h2 h3
 refine ⟨fun s hs=>⟨by simpa using h1 s hs,by simpa using h2 s hs⟩,fun s hs=>by simpa using h3 s hs,fun hw=>?_,fun hw=>?_⟩
 ·rw [h,if_pos hw] at hr
  simpa using hr.symm
 ·rw [h,if_neg hw] at hr
  have:=hr.symm
  simp only [Bool.and_eq_true,Bool.not_eq_true'] at this
  exact ⟨this.1,this.2.2⟩
theorem L6.whole_parts {s:List UInt8} (h:L6.whole s = true):L6.wordsOf s = some [s]∧10 ∉ s:=by
 unfold L6.whole at h
 simpa using h
theorem L6.line_wd {x:L6.Line} (h:L6.right x = true):∀ y ∈ L6.lineWords x,L6.Wd y∧10 ∉ y:=by
 obtain ⟨h1,h2,h3,h4⟩:=L6.right_parts h
 intro y hy
 unfold L6.lineWords at hy
 rcases List.mem_append.1 hy with hy | hy
 ·rcases List.mem_append.1 hy with hy | hy
  ·unfold L6.marked at hy
   obtain ⟨s,hs,rfl⟩:=List.mem_map.1 hy
   obtain ⟨a,b⟩:=h1 s hs
   obtain ⟨w1,w2⟩:=L6.whole_parts a
   exact ⟨L6.wd_label w1 b,by simpa using w2⟩
  ·split at hy
   ·simp at hy
   ·rename_i hw
    simp at hy
    subst hy
    obtain ⟨w1,w2⟩:=L6.whole_parts (h4 hw).1
    exact ⟨L6.wd_of w1,w2⟩
 ·obtain ⟨w1,w2⟩:=L6.whole_parts (h2 y hy)
  exact ⟨L6.wd_of w1,w2⟩
theorem L6.mark_label {s:List UInt8} (hne:s ≠ []) (hq:L6.quoted s = false):L6.label (s ++ [58]) = true∧(s ++ [58]).dropLast = s:=by
 refine ⟨?_,by simp⟩
 cases s with
 | nil=>exact absurd rfl hne
 | cons c t=>
  have hc:c ≠ 34:=by
   rintro rfl
   unfold L6.quoted Lib.hasPrefix at hq
   simp [List.isPrefixOf] at hq
  rw [L6.label_at _ (by simp)]
  simp [List.getD,hc]
theorem L6.labels_marked:∀ {l r:List (List UInt8)},(∀ s ∈ l,s ≠ []∧L6.quoted s = false)→L6.labels (L6.marked l ++ r) = l ++ L6.labels r∧L6.rest (L6.marked l ++ r) = L6.rest r
 | [],r,_=>⟨rfl,rfl⟩
 | s :: l,r,h=>by
  obtain ⟨h1,h2⟩:=L6.labels_marked (l:=l) (r:=r) fun y hy=>h y (by simp [hy])
  obtain ⟨a,b⟩:=L6.mark_label (h s (by simp)).1 (h s (by simp)).2
  have e:L6.marked (s :: l) ++ r = (s ++ [58]) :: (L6.marked l ++ r):=rfl
  rw [e]
  constructor
  ·conv=>lhs;unfold L6.labels
   rw [if_pos a,h1,b]
   rfl
  ·conv=>lhs;unfold L6.rest
   rw [if_pos a,h2]
theorem L6.line_back {x:L6.Line} (h:L6.right x = true):L6.line (L6.lineWords x) = x:=by
 obtain ⟨h1,h2,h3,h4⟩:=L6.right_parts h
 obtain ⟨xl,xw,xa⟩:=x
 simp only at h1 h2 h3 h4
 have hl:∀ s ∈ xl,s ≠ []∧L6.quoted s = false:=fun s hs=>⟨L6.whole_ne (h1 s hs).1,(h1 s hs).2⟩
 unfold L6.line L6.lineWords
 simp only
 rw [List.append_assoc]
 obtain ⟨e1,e2⟩:=L6.labels_marked (r:=(if xw = [] then [] else [xw]) ++ xa) hl
 rw [e1,e2]
 by_cases hw:xw = []
 ·rw [if_pos hw,h3 hw,hw]
  simp [L6.labels,L6.rest]
 ·rw [if_neg hw]
  have hlab:=(h4 hw).2
  simp [L6.labels,L6.rest,hlab]
theorem L6.join_free {ws:List (List UInt8)} (h:∀ y ∈ ws,10 ∉ y):10 ∉ Lib.join ws [32]:=by
 have ht:∀ r:List (List UInt8),(∀ y ∈ r,10 ∉ y)→10 ∉ Lib.joinTail [32] r:=by
  intro r hr hm
  unfold Lib.joinTail at hm
  obtain ⟨l,hl,hx⟩:=List.mem_flatten.1 hm
  obtain ⟨y,hy,rfl⟩:=List.mem_map.1 hl
  rcases List.mem_append.1 hx with hx | hx
  ·simp at hx
  ·exact hr y hy hx
 cases ws with
 | nil=>simp [Lib.join_nil]
 | cons x t=>
  rw [Lib.join_cons]
  intro hm
  rcases List.mem_append.1 hm with hm | hm
  ·exact h x (by simp) hm
  ·exact ht t (fun y hy=>h y (by simp [hy])) hm
theorem L6.split_text:∀ {ls:List L6.Line},(∀ x ∈ ls,L6.right x = true)→L6.split (L6.text ls) = ls.map fun x=>Lib.join (L6.lineWords x) [32]
 | [],_=>rfl
 | x :: t,h=>by
  have e:L6.text (x :: t) = Lib.join (L6.lineWords x) [32] ++ 10 :: L6.text t:=by
   show L6.lineText x ++ L6.text t = _
   unfold L6.lineText
   simp
  rw [e,L6.split_free (L6.join_free fun y hy=>(L6.line_wd (h x (by simp)) y hy).2),L6.split_text fun y hy=>h y (by simp [hy])]
  rfl
end Go.Proofs.YtpcpaoeajcjoiaaGreatDoor
namespace Go.Proofs.YtpcpaoeajcjoiaaGreatDoor
def As.dgB (c:UInt8):Bool:=decide (48≤c.toNat) && decide (c.toNat≤57)
theorem As.dg_digit (r:Nat) (h:r < 10):As.dgB (UInt8.ofNat (48+r)) = true∧L6.dig (UInt8.ofNat (48+r)) = some r:=by
 have:∀ r:Fin 10,As.dgB (UInt8.ofNat (48+r.val)) = true∧L6.dig (UInt8.ofNat (48+r.val)) = some r.val:=by decide
 exact this ⟨r,h⟩
theorem As.dec_dg:∀ (n:Nat),∀ c ∈ Lib.decDigits n,As.dgB c = true:=by
 intro n
 induction n using Nat.strongRecOn with
 | ind n ih=>
  intro c hc
  unfold Lib.decDigits at hc
  split at hc
  ·rename_i h
   rw [List.mem_singleton] at hc
   rw [hc]
   exact (As.dg_digit n h).1
  ·rename_i h
   rcases List.mem_append.1 hc with hc | hc
   ·exact ih (n / 10) (by omega) c hc
   ·rw [List.mem_singleton] at hc
    rw [hc]
    exact (As.dg_digit _ (by omega)).1
theorem As.dec_ne (n:Nat):Lib.decDigits n ≠ []:=by
 unfold Lib.decDigits
 split <;> simp
theorem As.digits_app:∀ (l:List UInt8) (n m:Nat) (t:List UInt8),L6.digits 10 n l = some m→L6.digits 10 n (l ++ t) = L6.digits 10 m t
 | [],n,m,t,h=>by
  have h:some n = some m:=h
  cases h
  rfl
 | c :: l,n,m,t,h=>by
  rw [List.cons_append]
  unfold L6.digits at h
  conv=>lhs;unfold L6.digits
  cases hd:L6.dig c with
  | none=>rw [hd] at h;cases h
  | some d=>
   rw [hd] at h
   dsimp only at h ⊢
   split at h
   ·cases h
   ·rename_i h1
    split at h
    ·cases h
    ·rename_i h2
     rw [if_neg h1,if_neg h2]
     exact As.digits_app l _ m t h
theorem As.digits_dec:∀ (n:Nat),n≤4294967295→L6.digits 10 0 (Lib.decDigits n) = some n:=by
 intro n
 induction n using Nat.strongRecOn with
 | ind n ih=>
  intro hn
  unfold Lib.decDigits
  split
  ·rename_i h
   unfold L6.digits
   rw [(As.dg_digit n h).2]
   dsimp only
   rw [if_neg (by omega),if_neg (by omega)]
   unfold L6.digits
   rw [Nat.zero_mul,Nat.zero_add]
  ·rename_i h
   rw [As.digits_app _ 0 (n / 10) _ (ih (n / 10) (by omega) (by omega))]
   unfold L6.digits
   rw [(As.dg_digit (n % 10) (by omega)).2]
   dsimp only
   rw [if_neg (by omega),if_neg (by omega)]
   unfold L6.digits
   rw [show n / 10 * 10+n % 10 = n by omega]
theorem As.digitsV_dec (n:Nat) (hn:n≤4294967295):L6.digitsV 10 (Lib.decDigits n) = (n,true):=by
 unfold L6.digitsV
 rw [As.digits_dec n hn]
 have:=As.dec_ne n
 cases h:Lib.decDigits n with
 | nil=>exact absurd h this
 | cons c t=>rfl
theorem As.no_prefix {l p:List UInt8} {d:UInt8} (hl:d ∉ l) (hp:d ∈ p):Lib.hasPrefix l p = false:=by
 cases h:Lib.hasPrefix l p with
 | false=>rfl
 | true=>
  unfold Lib.hasPrefix at h
  obtain ⟨t,rfl⟩:=List.isPrefixOf_iff_prefix.1 h
  exact absurd (List.mem_append_left t hp) hl
theorem As.no_quote3 {l:List UInt8} (hl:(39:UInt8) ∉ l):L6.quoted3 l = false:=by
 unfold L6.quoted3
 cases l with
 | nil=>rfl
 | cons c t=>
  have:c ≠ 39:=fun e=>hl (by simp [e])
  simp [this]
theorem As.dec_free (n:Nat) (d:UInt8) (h:As.dgB d = false):d ∉ Lib.decDigits n:=fun e=>by rw [As.dec_dg n d e] at h;cases h
theorem As.num_dec (k:Nat) (h:k≤4294967295):L6.number (Lib.decDigits k) = ((k:Int),true):=by
 have hq:L6.quoted3 (Lib.decDigits k) = false:=As.no_quote3 (As.dec_free k 39 (by decide))
 have hh:Lib.hasPrefix (Lib.decDigits k) [48,120] = false:=As.no_prefix (As.dec_free k 120 (by decide)) (by decide)
 have hm:Lib.hasPrefix (Lib.decDigits k) [45] = false:=As.no_prefix (As.dec_free k 45 (by decide)) (by decide)
 have hr:L6.rawV (Lib.decDigits k) = ((k:Int),true):=by
  unfold L6.rawV
  rw [hh,hm,As.digitsV_dec k (by omega)]
  simp only [Bool.false_and,Bool.false_eq_true,if_false]
 unfold L6.number
 rw [hq,hr]
 have a1:decide (-2147483648≤(k:Int)) = true:=decide_eq_true (by omega)
 have a2:decide ((k:Int)≤4294967295) = true:=decide_eq_true (by omega)
 simp only [a1,a2,Bool.false_eq_true,if_false,Bool.and_true,if_true]
theorem L6.free_wd {s:List UInt8} (hne:s ≠ []) (hb:∀ c ∈ s,L6.blank c = false) (hq:s.headD 0 ≠ 34) (hn:L6.note s = false):L6.Wd s:=by
 cases s with
 | nil=>exact absurd rfl hne
 | cons c t=>
  refine ⟨hne,L6.head_plain rfl (hb c (by simp)),fun r hr=>?_,hn⟩
  obtain ⟨h1,h2⟩:=L6.word_app (r:=r) hb hr
  rw [List.cons_append,L6.next_plain (by simpa using hq),← List.cons_append,h1,h2]
theorem L6.free_whole {s:List UInt8} (hne:s ≠ []) (hb:∀ c ∈ s,L6.blank c = false) (h10:(10:UInt8) ∉ s) (hq:s.headD 0 ≠ 34) (hn:L6.note s = false):L6.whole s = true:=by
 unfold L6.whole
 have h1:=L6.wordsOf_join (ws:=[s]) (fun x hx=>by rw [List.mem_singleton.1 hx];exact L6.free_wd hne hb hq hn)
 have h2:Lib.join [s] [32] = s:=by simp [Lib.join]
 rw [h2] at h1
 rw [h1]
 simp [h10]
theorem As.mark_num (c:UInt8) (t:List UInt8) (hc:c = 61 ∨ c = 94):L6.number (c :: t) = (0,false):=by
 have hq:L6.quoted3 (c :: t) = false:=by
  unfold L6.quoted3
  rcases hc with rfl | rfl <;> simp
 have hr:L6.rawV (c :: t) = (0,false):=by
  have hd:L6.digitsV 10 (c :: t) = (0,false):=by
   unfold L6.digitsV L6.digits
   rw [show L6.dig c = none by rcases hc with rfl | rfl <;> rfl]
  have hh:Lib.hasPrefix (c :: t) [48,120] = false:=by rcases hc with rfl | rfl <;> simp [Lib.hasPrefix,List.isPrefixOf]
  have hm:Lib.hasPrefix (c :: t) [45] = false:=by rcases hc with rfl | rfl <;> simp [Lib.hasPrefix,List.isPrefixOf]
  unfold L6.rawV
  rw [hh,hm,hd]
  simp
 unfold L6.number
 rw [hq,hr]
 simp
theorem As.mark_reg (c:UInt8) (t:List UInt8) (hc:c = 61 ∨ c = 94):(L6.regV (c :: t)).2 = false:=by
 unfold L6.regV
 rw [if_neg (by simp),if_neg (by rcases hc with rfl | rfl <;> simp),if_neg (by rcases hc with rfl | rfl <;> simp),if_neg (by rcases hc with rfl | rfl <;> simp),if_neg (by rcases hc with rfl | rfl <;> simp),if_neg (by rcases hc with rfl | rfl <;> simp)]
 have hr:∀ n,L6.rowsV c n = (0,false):=fun n=>by
  unfold L6.rowsV
  rcases hc with rfl | rfl <;> simp
 cases h:(L6.countedV (c :: t).tail).2
 ·rfl
 ·rw [List.headD_cons,hr];rfl
theorem As.mark_sym (c:UInt8) (t:List UInt8) (hc:c = 61 ∨ c = 94):As.symbol (c :: t) = true:=by
 unfold As.symbol
 rw [As.mark_num c t hc,As.mark_reg c t hc]
 rcases hc with rfl | rfl <;> simp
end Go.Proofs.YtpcpaoeajcjoiaaGreatDoor
namespace Go.Proofs.YtpcpaoeajcjoiaaGreatDoor
def Im.nopB:List UInt8:=[19,0,0,0]
def Im.nop:L6.Line:=⟨[],As.tNop,[]⟩
theorem Im.names_no:Is.isName ⟨As.tAlign.toArray⟩ = false∧Is.isName ⟨As.tWord.toArray⟩ = false∧Is.isName ⟨As.tSpan.toArray⟩ = false∧Is.isName ⟨As.tByte.toArray⟩ = false∧Is.isName ⟨As.tNop.toArray⟩ = false:=by decide +kernel
theorem Im.pseudo_no (x:As.L):As.pseudo As.tAlign x = none∧As.pseudo As.tWord x = none∧As.pseudo As.tSpan x = none∧As.pseudo As.tByte x = none:=by
 unfold As.pseudo
 refine ⟨?_,?_,?_,?_⟩ <;> (repeat rw [if_neg (by decide)])
theorem Im.pieces_mark (ls:List (List UInt8)) (at_:Nat):As.pieces ⟨ls,[],[]⟩ at_ = some []:=by unfold As.pieces;rw [if_pos rfl]
theorem Im.pieces_data {ls:List (List UInt8)} {w:List UInt8} {a:List (List UInt8)} {at_:Nat} {y:As.L} (h0:w ≠ []) (h1:Is.isName ⟨w.toArray⟩ = false) (h2:As.pseudo w ⟨a,true,[]⟩ = none) (h3:As.data w at_ ⟨a,true,[]⟩ = some y):As.pieces ⟨ls,w,a⟩ at_ = As.done y:=by
 unfold As.pieces
 rw [if_neg h0]
 dsimp only
 unfold As.read
 rw [if_neg (by rw [h1];decide),h2]
 dsimp only
 rw [h3]
theorem Im.pieces_nop (ls:List (List UInt8)) (at_:Nat):As.pieces ⟨ls,As.tNop,[]⟩ at_ = some [⟨true,⟨18,0,0,0,0⟩,[],0,[],[]⟩]:=by
 unfold As.pieces
 dsimp only
 rw [if_neg (by decide)]
 unfold As.read
 rw [if_neg (by rw [Im.names_no.2.2.2.2];decide)]
 unfold As.pseudo
 rw [if_neg (by decide),if_neg (by decide),if_neg (by decide),if_pos rfl]
 rfl
theorem Im.pieces_align (ls:List (List UInt8)) (at_:Nat):As.pieces ⟨ls,As.tAlign,[]⟩ at_ = some [As.raw (List.replicate ((4 - at_ % 4) % 4) 0)]:=by
 rw [Im.pieces_data (by decide) Im.names_no.1 (Im.pseudo_no _).1 (y:=As.put (As.raw (List.replicate ((4 - at_ % 4) % 4) 0)) ⟨[],true,[]⟩)]
 ·rfl
 ·unfold As.data
  rw [if_neg (by decide),if_neg (by decide),if_neg (by decide),if_neg (by decide),if_pos rfl]
theorem Im.pieces_word (ls:List (List UInt8)) (at_:Nat) (s:List UInt8):As.pieces ⟨ls,As.tWord,[s]⟩ at_ = As.done (As.word1 ⟨[s],true,[]⟩):=by
 rw [Im.pieces_data (by decide) Im.names_no.2.1 (Im.pseudo_no _).2.1 (y:=As.word1 ⟨[s],true,[]⟩)]
 unfold As.data
 rw [if_pos rfl,As.loop_one,if_pos (by rw [As.word1_l];rfl)]
theorem Im.dec_zero:Lib.decDigits 0 = [48]:=by unfold Lib.decDigits;rfl
theorem Im.num_zero:L6.number [48] = (0,true):=by
 have:=As.num_dec 0 (by decide)
 rwa [Im.dec_zero] at this
theorem Im.pieces_zero (ls:List (List UInt8)) (at_:Nat):As.pieces ⟨ls,As.tWord,[[48]]⟩ at_ = some [⟨false,As.no,As.four 0,0,[],[]⟩]:=by
 rw [Im.pieces_word]
 have h:As.either ⟨[[48]],true,[]⟩ = ((0,[]),⟨[],true,[]⟩):=by
  unfold As.either
  dsimp only
  rw [if_pos (by rw [Im.num_zero]),Im.num_zero]
 unfold As.word1
 simp only [h]
 rfl
theorem Im.pieces_sym (ls:List (List UInt8)) (at_:Nat) (c:UInt8) (t:List UInt8) (hc:c = 61 ∨ c = 94):As.pieces ⟨ls,As.tWord,[c :: t]⟩ at_ = some [⟨false,As.no,As.four 0,4,c :: t,[]⟩]:=by
 rw [Im.pieces_word]
 have h:As.either ⟨[c :: t],true,[]⟩ = ((0,c :: t),⟨[],true,[]⟩):=by
  unfold As.either
  dsimp only
  rw [if_neg (by rw [As.mark_num c t hc];decide)]
  unfold As.name As.next As.sat
  dsimp only
  rw [As.mark_sym c t hc]
  rfl
 unfold As.word1
 simp only [h]
 rfl
theorem Im.pieces_span (ls:List (List UInt8)) (at_:Nat) (c:UInt8) (t:List UInt8) (hc:c = 61 ∨ c = 94) (d:UInt8) (u:List UInt8) (hd:d = 61 ∨ d = 94):As.pieces ⟨ls,As.tSpan,[c :: t,d :: u]⟩ at_ = some [⟨false,As.no,[0,0,0,0],5,d :: u,c :: t⟩]:=by
 rw [Im.pieces_data (by decide) Im.names_no.2.2.1 (Im.pseudo_no _).2.2.1 (y:=⟨[],true,[⟨false,As.no,[0,0,0,0],5,d :: u,c :: t⟩]⟩)]
 ·rfl
 ·unfold As.data
  rw [if_neg (by decide),if_neg (by decide),if_neg (by decide),if_neg (by decide),if_neg (by decide),if_pos rfl]
  unfold As.name As.next As.sat
  dsimp only
  rw [As.mark_sym c t hc,As.mark_sym d u hd]
  rfl
def Im.raw1 (n:Nat):As.P:=⟨false,As.no,[UInt8.ofNat n],0,[],[]⟩
theorem Im.byte1_dec (n:Nat) (h:n≤255) (t:List (List UInt8)) (p:List As.P):As.byte1 ⟨Lib.decDigits n :: t,true,p⟩ = ⟨t,true,p ++ [Im.raw1 n]⟩:=by
 unfold As.byte1 As.num As.next As.sat As.put
 dsimp only
 rw [As.num_dec n (by omega)]
 dsimp only
 rw [show decide (-128≤(n:Int)) = true from decide_eq_true (by omega),show decide ((n:Int)≤255) = true from decide_eq_true (by omega),show ((n:Int) % 256).toNat = n by omega]
 rfl
theorem Im.loop_bytes:∀ (ns:List Nat) (k:Nat) (p:List As.P),ns ≠ []→ns.length < k→(∀ n ∈ ns,n≤255)→As.loop As.byte1 k ⟨ns.map Lib.decDigits,true,p⟩ = ⟨[],true,p ++ ns.map Im.raw1⟩
 | [],_,_,h,_,_=>absurd rfl h
 | n :: t,0,p,_,hk,_=>by omega
 | n :: t,k+1,p,_,hk,hx=>by
  rw [As.loop_one,List.map_cons,Im.byte1_dec n (hx n (by simp))]
  cases t with
  | nil=>rfl
  | cons m u=>
   rw [if_neg (by simp),Im.loop_bytes (m :: u) k _ (by simp) (by simpa using hk) (fun z hz=>hx z (by simp [hz]))]
   simp
theorem Im.pieces_bytes (ls:List (List UInt8)) (at_:Nat) (ns:List Nat) (hn:ns ≠ []) (hx:∀ n ∈ ns,n≤255):As.pieces ⟨ls,As.tByte,ns.map Lib.decDigits⟩ at_ = some (ns.map Im.raw1):=by
 rw [Im.pieces_data (by decide) Im.names_no.2.2.2.1 (Im.pseudo_no _).2.2.2 (y:=⟨[],true,[] ++ ns.map Im.raw1⟩)]
 ·rfl
 ·unfold As.data
  rw [if_neg (by decide),if_pos rfl,Im.loop_bytes ns _ [] hn (by simp) hx]
theorem Im.puts_one {sy:List (List UInt8 × Nat)} {a:Nat} {p:As.P} {b bs:List UInt8} (h:As.piece sy p (As.at32 (a+b.length)) = (bs,0)):As.puts sy a [p] b = (b ++ bs,0):=by
 unfold As.puts
 rw [h,if_pos rfl]
 rfl
theorem Im.piece_raw (sy:List (List UInt8 × Nat)) (bs nm sr:List UInt8) (at_:Nat):As.piece sy ⟨false,As.no,bs,0,nm,sr⟩ at_ = (bs,0):=by unfold As.piece;rw [if_pos ⟨rfl,rfl⟩]
theorem Im.piece_sym {sy:List (List UInt8 × Nat)} {nm:List UInt8} {v:Nat} (h:As.look sy nm = some v) (at_:Nat):As.piece sy ⟨false,As.no,As.four 0,4,nm,[]⟩ at_ = (As.four v,0):=by
 unfold As.piece
 rw [if_neg (by simp),if_neg (by rw [h];simp),if_neg (by simp),if_pos rfl,h]
 rfl
theorem Im.piece_span {sy:List (List UInt8 × Nat)} {nm sr:List UInt8} {v w:Nat} (h:As.look sy nm = some v) (h2:As.look sy sr = some w) (at_:Nat):As.piece sy ⟨false,As.no,[0,0,0,0],5,nm,sr⟩ at_ = (As.four (As.bits ((v:Int) - (w:Int))),0):=by
 unfold As.piece
 rw [if_neg (by simp),if_neg (by rw [h];simp),if_pos rfl]
 dsimp only
 rw [h2,h]
 rfl
theorem Im.enc_nop:Is.enc ⟨18,0,0,0,0⟩ = (19,0):=by decide +kernel
theorem Im.piece_nop (sy:List (List UInt8 × Nat)) (at_:Nat):As.piece sy ⟨true,⟨18,0,0,0,0⟩,[],0,[],[]⟩ at_ = (Im.nopB,0):=by
 have e:∀ v,As.aim ⟨true,⟨18,0,0,0,0⟩,[],0,[],[]⟩ v at_ = (⟨18,0,0,0,0⟩,20):=fun v=>by
  unfold As.aim
  rw [if_neg (by decide),if_neg (by decide),if_neg (by decide)]
 unfold As.piece
 rw [if_neg (by simp),if_neg (by simp),if_neg (by simp),if_neg (by simp),e,Im.enc_nop,if_pos rfl]
 rfl
theorem Im.puts_bytes (sy:List (List UInt8 × Nat)) (a:Nat):∀ (ns:List Nat) (b:List UInt8),As.puts sy a (ns.map Im.raw1) b = (b ++ ns.map UInt8.ofNat,0)
 | [],b=>by simp [As.puts]
 | n :: t,b=>by
  rw [List.map_cons]
  unfold As.puts
  rw [show As.piece sy (Im.raw1 n) (As.at32 (a+b.length)) = ([UInt8.ofNat n],0) from Im.piece_raw sy _ _ _ _,if_pos rfl,Im.puts_bytes sy a t]
  simp
end Go.Proofs.YtpcpaoeajcjoiaaGreatDoor
namespace Go.Proofs.YtpcpaoeajcjoiaaGreatDoor
structure Im.W where
 name:List UInt8
 fl:Nat
 n:Nat
 l:Nat
def Im.own (x:Im.W):List UInt8:=Im.label x.l x.name
def Im.hd (x:Im.W):List UInt8:=Im.head x.l x.name
def Im.key (x:Im.W):Nat:=x.l * 16+Im.bucket x.name
def Im.hsz (x:Im.W):Nat:=Nm.lengthN x.name.length+4
def Im.wsz (x:Im.W):Nat:=Im.hsz x+4 * x.n
def Im.pd (x:Im.W):Nat:=Nm.lengthN x.name.length - (14+x.name.length)
def Im.Mark (s:List UInt8):Prop:=∃ c t,s = c :: t∧(c = 61 ∨ c = 94)
theorem Im.own_mark (x:Im.W):Im.Mark (Im.own x):=⟨61,_,rfl,.inl rfl⟩
theorem Im.hd_mark (x:Im.W):Im.Mark (Im.hd x):=⟨94,_,rfl,.inr rfl⟩
theorem Im.mark_end {s:List UInt8} (h:Im.Mark s):Im.Mark (s ++ [36]):=by
 obtain ⟨c,t,rfl,hc⟩:=h
 exact ⟨c,t ++ [36],rfl,hc⟩
theorem Im.mark_ne {s:List UInt8} (h:Im.Mark s):s ≠ []:=by
 obtain ⟨c,t,rfl,hc⟩:=h
 simp
abbrev Im.Bl:=List (L6.Line × List UInt8)
def As.blen:Im.Bl→Nat
 | []=>0
 | p :: r=>p.2.length+As.blen r
theorem As.blen_app:∀ (A B:Im.Bl),As.blen (A ++ B) = As.blen A+As.blen B
 | [],B=>by simp [As.blen]
 | p :: r,B=>by rw [List.cons_append,As.blen,As.blen,As.blen_app r B];omega
theorem As.syms_app (a:Nat):∀ (A B:Im.Bl) (here:Nat),As.symsAt a here (A ++ B) = As.symsAt a here A ++ As.symsAt a (here+As.blen A) B
 | [],B,here=>rfl
 | (x,bs) :: r,B,here=>by
  rw [List.cons_append,As.symsAt,As.symsAt,As.syms_app a r B,List.append_assoc,As.blen,Nat.add_assoc]
theorem Im.sz_mark {a here:Nat} {r:Im.Bl} (ls:List (List UInt8)) (hb:here≤131072) (hr:As.Sized a here r):As.Sized a here ((⟨ls,[],[]⟩,[]) :: r):=
 ⟨⟨[],Im.pieces_mark _ _,rfl,fun h=>by cases h⟩,hb,hr⟩
theorem Im.sz_word {a here:Nat} {r:Im.Bl} (ls:List (List UInt8)) (s:List UInt8) (v:Nat) (h:s = [48] ∨ Im.Mark s) (hb:here+4≤131072) (hr:As.Sized a (here+4) r):As.Sized a here ((⟨ls,As.tWord,[s]⟩,As.four v) :: r):=by
 rcases h with rfl | ⟨c,t,rfl,hc⟩
 ·exact ⟨⟨_,Im.pieces_zero _ _,rfl,fun h=>by cases h⟩,hb,hr⟩
 ·exact ⟨⟨_,Im.pieces_sym _ _ c t hc,rfl,fun h=>by cases h⟩,hb,hr⟩
theorem Im.sz_span {a here:Nat} {r:Im.Bl} (ls:List (List UInt8)) (s u:List UInt8) (v:Nat) (h:Im.Mark s) (h2:Im.Mark u) (hb:here+4≤131072) (hr:As.Sized a (here+4) r):As.Sized a here ((⟨ls,As.tSpan,[s,u]⟩,As.four v) :: r):=by
 obtain ⟨c,t,rfl,hc⟩:=h
 obtain ⟨d,q,rfl,hd⟩:=h2
 exact ⟨⟨_,Im.pieces_span _ _ c t hc d q hd,rfl,fun h=>by cases h⟩,hb,hr⟩
theorem Im.size_raws:∀ ns:List Nat,As.size (ns.map Im.raw1) = ns.length
 | []=>rfl
 | n :: t=>by
  have:=Im.size_raws t
  unfold As.size at this ⊢
  rw [List.map_cons,List.map_cons,List.sum_cons,this,List.length_cons,show As.size1 (Im.raw1 n) = 1 from rfl]
  omega
theorem Im.sz_bytes {a here:Nat} {r:Im.Bl} (ls:List (List UInt8)) (ns:List Nat) (hn:ns ≠ []) (hx:∀ n ∈ ns,n≤255) (hb:here+ns.length≤131072) (hr:As.Sized a (here+ns.length) r):As.Sized a here ((⟨ls,As.tByte,ns.map Lib.decDigits⟩,ns.map UInt8.ofNat) :: r):=
 ⟨⟨_,Im.pieces_bytes _ _ ns hn hx,by rw [Im.size_raws,List.length_map],fun h=>by
  cases ns with
  | nil=>exact absurd rfl hn
  | cons n t=>cases h⟩,by rw [List.length_map];exact hb,by rw [List.length_map];exact hr⟩
theorem Im.sz_align {a here p:Nat} {r:Im.Bl} (ls:List (List UInt8)) (hp:(4 - As.at32 (a+here) % 4) % 4 = p) (hb:here+p≤131072) (hr:As.Sized a (here+p) r):As.Sized a here ((⟨ls,As.tAlign,[]⟩,List.replicate p 0) :: r):=by
 subst hp
 refine ⟨⟨_,Im.pieces_align _ _,?_,fun h=>by cases h⟩,by rw [List.length_replicate];exact hb,by rw [List.length_replicate];exact hr⟩
 simp [As.size,As.size1,As.raw]
theorem Im.sz_nop {a here:Nat} {r:Im.Bl} (ls:List (List UInt8)) (h4:As.at32 (a+here) % 4 = 0) (hb:here+4≤131072) (hr:As.Sized a (here+4) r):As.Sized a here ((⟨ls,As.tNop,[]⟩,Im.nopB) :: r):=
 ⟨⟨_,Im.pieces_nop _ _,rfl,fun _=>h4⟩,hb,hr⟩
theorem Im.ld_mark {sy:List (List UInt8 × Nat)} {a here:Nat} {r:Im.Bl} (ls:List (List UInt8)) (hr:As.Laid sy a here r):As.Laid sy a here ((⟨ls,[],[]⟩,[]) :: r):=
 ⟨⟨[],Im.pieces_mark _ _,fun b _=>by simp [As.puts]⟩,hr⟩
theorem Im.ld_word {sy:List (List UInt8 × Nat)} {a here:Nat} {r:Im.Bl} (ls:List (List UInt8)) (s:List UInt8) (v:Nat) (h:(s = [48]∧v = 0) ∨ (Im.Mark s∧As.look sy s = some v)) (hr:As.Laid sy a (here+4) r):As.Laid sy a here ((⟨ls,As.tWord,[s]⟩,As.four v) :: r):=by
 rcases h with ⟨rfl,rfl⟩ | ⟨⟨c,t,rfl,hc⟩,hl⟩
 ·exact ⟨⟨_,Im.pieces_zero _ _,fun b hb=>Im.puts_one (Im.piece_raw _ _ _ _ _)⟩,hr⟩
 ·exact ⟨⟨_,Im.pieces_sym _ _ c t hc,fun b hb=>Im.puts_one (Im.piece_sym hl _)⟩,hr⟩
theorem Im.ld_span {sy:List (List UInt8 × Nat)} {a here:Nat} {r:Im.Bl} (ls:List (List UInt8)) (s u:List UInt8) (v p q:Nat) (h:Im.Mark s) (h2:Im.Mark u) (hs:As.look sy s = some p) (hu:As.look sy u = some q) (hv:q = p+v) (hv2:v < 4294967296) (hr:As.Laid sy a (here+4) r):As.Laid sy a here ((⟨ls,As.tSpan,[s,u]⟩,As.four v) :: r):=by
 obtain ⟨c,t,rfl,hc⟩:=h
 obtain ⟨d,w,rfl,hd⟩:=h2
 refine ⟨⟨_,Im.pieces_span _ _ c t hc d w hd,fun b hb=>?_⟩,hr⟩
 refine Im.puts_one ?_
 rw [Im.piece_span hu hs]
 rw [show As.bits ((q:Int) - (p:Int)) = v from by unfold As.bits;omega]
theorem Im.ld_bytes {sy:List (List UInt8 × Nat)} {a here:Nat} {r:Im.Bl} (ls:List (List UInt8)) (ns:List Nat) (hn:ns ≠ []) (hx:∀ n ∈ ns,n≤255) (hr:As.Laid sy a (here+ns.length) r):As.Laid sy a here ((⟨ls,As.tByte,ns.map Lib.decDigits⟩,ns.map UInt8.ofNat) :: r):=
 ⟨⟨_,Im.pieces_bytes _ _ ns hn hx,fun b hb=>Im.puts_bytes sy a ns b⟩,by rw [List.length_map];exact hr⟩
theorem Im.ld_align {sy:List (List UInt8 × Nat)} {a here p:Nat} {r:Im.Bl} (ls:List (List UInt8)) (hp:(4 - As.at32 (a+here) % 4) % 4 = p) (hr:As.Laid sy a (here+p) r):As.Laid sy a here ((⟨ls,As.tAlign,[]⟩,List.replicate p 0) :: r):=by
 subst hp
 exact ⟨⟨_,Im.pieces_align _ _,fun b hb=>Im.puts_one (Im.piece_raw _ _ _ _ _)⟩,by rw [List.length_replicate];exact hr⟩
theorem Im.ld_nop {sy:List (List UInt8 × Nat)} {a here:Nat} {r:Im.Bl} (ls:List (List UInt8)) (hr:As.Laid sy a (here+4) r):As.Laid sy a here ((⟨ls,As.tNop,[]⟩,Im.nopB) :: r):=
 ⟨⟨_,Im.pieces_nop _ _,fun b hb=>Im.puts_one (Im.piece_nop _ _)⟩,hr⟩
theorem Im.sz_nops {here:Nat} {r:Im.Bl}:∀ (k:Nat) (here:Nat),here % 4 = 0→here+4 * k≤131072→As.Sized 0 (here+4 * k) r→As.Sized 0 here (List.replicate k (Im.nop,Im.nopB) ++ r)
 | 0,here,_,_,h=>h
 | k+1,here,h4,hb,h=>by
  rw [List.replicate_succ,List.cons_append]
  refine Im.sz_nop _ (by unfold As.at32;omega) (by omega) (Im.sz_nops (here:=here) k (here+4) (by omega) (by omega) ?_)
  rw [show here+4+4 * k = here+4 * (k+1) by omega]
  exact h
theorem Im.ld_nops {sy:List (List UInt8 × Nat)} {r:Im.Bl}:∀ (k:Nat) (here:Nat),As.Laid sy 0 (here+4 * k) r→As.Laid sy 0 here (List.replicate k (Im.nop,Im.nopB) ++ r)
 | 0,here,h=>h
 | k+1,here,h=>by
  rw [List.replicate_succ,List.cons_append]
  refine Im.ld_nop _ (Im.ld_nops k (here+4) ?_)
  rw [show here+4+4 * k = here+4 * (k+1) by omega]
  exact h
theorem Im.blen_nops:∀ k:Nat,As.blen (List.replicate k (Im.nop,Im.nopB)) = 4 * k
 | 0=>rfl
 | k+1=>by rw [List.replicate_succ,As.blen,Im.blen_nops k];show 4+4 * k = _;omega
def Im.ends (prev:List UInt8):Im.Bl:=if prev = [] then [] else [(⟨[prev ++ [36]],[],[]⟩,[])]
def Im.ns (x:Im.W):List Nat:=x.fl :: x.name.length :: x.name.map fun c=>c.toNat
def Im.body (pos : Nat) (link : List UInt8) (la : Nat) (x : Im.W) : Im.Bl :=
  [(⟨[], As.tAlign, []⟩, List.replicate 0 0), (⟨[Im.hd x], As.tWord, [Im.either link]⟩, As.four la), (⟨[], As.tWord, [Im.own x]⟩, As.four (pos + Im.hsz x)), (⟨[], As.tSpan, [Im.own x, Im.own x ++ [36]]⟩, As.four (4 * x.n)),
   (⟨[], As.tByte, (Im.ns x).map Lib.decDigits⟩, (Im.ns x).map UInt8.ofNat), (⟨[], As.tAlign, []⟩, List.replicate (Im.pd x) 0), (⟨[], As.tWord, [Im.hd x]⟩, As.four pos), (⟨[Im.own x], [], []⟩, [])]
def Im.layW (pos:Nat) (prev link:List UInt8) (la:Nat) (x:Im.W):Im.Bl:=
 (⟨[],[],[]⟩,[]) :: (Im.ends prev ++ (Im.body pos link la x ++ List.replicate x.n (Im.nop,Im.nopB)))
theorem Im.ends_len (prev:List UInt8):As.blen (Im.ends prev) = 0:=by unfold Im.ends;split <;> rfl
theorem Im.ns_len (x:Im.W):(Im.ns x).length = 2+x.name.length:=by simp [Im.ns];omega
theorem Im.body_len (pos:Nat) (link:List UInt8) (la:Nat) (x:Im.W) (hx:x.name.length≤31):As.blen (Im.body pos link la x) = Im.hsz x:=by
 have h1:=Im.ns_len x
 unfold Im.body
 simp only [As.blen,List.length_map,List.length_replicate,h1,List.length_nil,As.four,List.length_cons]
 unfold Im.pd Im.hsz Nm.lengthN
 rw [if_neg (by omega)]
 omega
theorem Im.layW_len (pos:Nat) (prev link:List UInt8) (la:Nat) (x:Im.W) (hx:x.name.length≤31):As.blen (Im.layW pos prev link la x) = Im.wsz x:=by
 unfold Im.layW
 rw [As.blen,As.blen_app,As.blen_app,Im.ends_len,Im.body_len _ _ _ _ hx,Im.blen_nops]
 show 0+(0+(Im.hsz x+4 * x.n)) = _
 unfold Im.wsz
 omega
def Im.Fine (x:Im.W):Prop:=x.name.length≤31∧x.fl≤15∧x.n≤3∧x.l≤1
theorem Im.Fine.ns {x:Im.W} (h:Im.Fine x):∀ n ∈ Im.ns x,n≤255:=fun n hn=>by
 obtain ⟨h1,h2,_,_⟩:=h
 unfold Im.ns at hn
 rcases List.mem_cons.1 hn with rfl | hn
 ·omega
 ·rcases List.mem_cons.1 hn with rfl | hn
  ·omega
  ·obtain ⟨c,_,rfl⟩:=List.mem_map.1 hn
   have:=c.toNat_lt
   omega
theorem Im.ns_bytes (x:Im.W):(Im.ns x).map UInt8.ofNat = UInt8.ofNat x.fl :: UInt8.ofNat x.name.length :: x.name:=by
 unfold Im.ns
 rw [List.map_cons,List.map_cons,List.map_map]
 congr 2
 conv=>rhs;rw [← List.map_id x.name]
 refine List.map_congr_left fun c _=>?_
 simp
def Im.Lk (s:List UInt8):Prop:=s = [] ∨ Im.Mark s
theorem Im.Lk.either {s:List UInt8} (h:Im.Lk s):Im.either s = [48] ∨ Im.Mark (Im.either s):=by
 unfold Im.either
 rcases h with rfl | h
 ·exact .inl rfl
 ·rw [if_neg (Im.mark_ne h)];exact .inr h
theorem Im.sz_ends {here:Nat} {r:Im.Bl} (prev:List UInt8) (hb:here≤131072) (hr:As.Sized 0 here r):As.Sized 0 here (Im.ends prev ++ r):=by
 unfold Im.ends
 split
 ·exact hr
 ·exact Im.sz_mark _ hb hr
theorem Im.ld_ends {sy:List (List UInt8 × Nat)} {here:Nat} {r:Im.Bl} (prev:List UInt8) (hr:As.Laid sy 0 here r):As.Laid sy 0 here (Im.ends prev ++ r):=by
 unfold Im.ends
 split
 ·exact hr
 ·exact Im.ld_mark _ hr
theorem Im.pd_eq {x:Im.W} (hx:x.name.length≤31) {pos:Nat} (hp:pos % 4 = 0) (hb:pos+Im.wsz x≤131072):(4 - As.at32 (0+(pos+4+4+4+(Im.ns x).length)) % 4) % 4 = Im.pd x∧pos+4+4+4+(Im.ns x).length+Im.pd x+4 = pos+Im.hsz x:=by
 have h1:=Im.ns_len x
 unfold Im.wsz Im.hsz Nm.lengthN at hb
 unfold Im.pd Im.hsz Nm.lengthN As.at32
 rw [if_neg (by omega)] at hb ⊢
 rw [h1]
 omega
theorem Im.sz_body {pos:Nat} {r:Im.Bl} (link:List UInt8) (la:Nat) (x:Im.W) (hx:Im.Fine x) (hl:Im.Lk link) (hp:pos % 4 = 0) (hb:pos+Im.wsz x≤131072) (hr:As.Sized 0 (pos+Im.hsz x) r):As.Sized 0 pos (Im.body pos link la x ++ r):=by
 obtain ⟨e1,e2⟩:=Im.pd_eq hx.1 hp hb
 have hw:Im.wsz x = Im.hsz x+4 * x.n:=rfl
 unfold Im.body
 refine Im.sz_align _ (by unfold As.at32;omega) (by omega) ?_
 refine Im.sz_word _ _ _ hl.either (by omega) ?_
 refine Im.sz_word _ _ _ (.inr (Im.own_mark x)) (by omega) ?_
 refine Im.sz_span _ _ _ _ (Im.own_mark x) (Im.mark_end (Im.own_mark x)) (by omega) ?_
 refine Im.sz_bytes _ _ (by simp [Im.ns]) hx.ns (by omega) ?_
 refine Im.sz_align _ e1 (by omega) ?_
 refine Im.sz_word _ _ _ (.inr (Im.hd_mark x)) (by omega) ?_
 refine Im.sz_mark _ (by omega) ?_
 rw [show pos+0+4+4+4+(Im.ns x).length+Im.pd x+4 = pos+Im.hsz x by omega]
 exact hr
theorem Im.ld_body {sy:List (List UInt8 × Nat)} {pos:Nat} {r:Im.Bl} (link:List UInt8) (la:Nat) (x:Im.W) (hx:Im.Fine x) (hp:pos % 4 = 0) (hb:pos+Im.wsz x≤131072)
  (hl:(link = []∧la = 0) ∨ (Im.Mark link∧As.look sy link = some la)) (h1:As.look sy (Im.hd x) = some pos) (h2:As.look sy (Im.own x) = some (pos+Im.hsz x)) (h3:As.look sy (Im.own x ++ [36]) = some (pos+Im.wsz x)) (hr:As.Laid sy 0 (pos+Im.hsz x) r):As.Laid sy 0 pos (Im.body pos link la x ++ r):=by
 obtain ⟨e1,e2⟩:=Im.pd_eq hx.1 hp hb
 have hw:Im.wsz x = Im.hsz x+4 * x.n:=rfl
 unfold Im.body
 refine Im.ld_align _ (by unfold As.at32;omega) ?_
 refine Im.ld_word _ _ _ ?_ ?_
 ·rcases hl with ⟨rfl,rfl⟩ | ⟨hm,hk⟩
  ·exact .inl ⟨rfl,rfl⟩
  ·refine .inr ?_
   unfold Im.either
   rw [if_neg (Im.mark_ne hm)]
   exact ⟨hm,hk⟩
 refine Im.ld_word _ _ _ (.inr ⟨Im.own_mark x,h2⟩) ?_
 refine Im.ld_span _ _ _ _ _ _ (Im.own_mark x) (Im.mark_end (Im.own_mark x)) h2 h3 (by omega) (by have:=hx.2.2.1;omega) ?_
 refine Im.ld_bytes _ _ (by simp [Im.ns]) hx.ns ?_
 refine Im.ld_align _ e1 ?_
 refine Im.ld_word _ _ _ (.inr ⟨Im.hd_mark x,h1⟩) ?_
 refine Im.ld_mark _ ?_
 rw [show pos+0+4+4+4+(Im.ns x).length+Im.pd x+4 = pos+Im.hsz x by omega]
 exact hr
end Go.Proofs.YtpcpaoeajcjoiaaGreatDoor
namespace Go.Proofs.YtpcpaoeajcjoiaaGreatDoor
theorem Im.hsz_mod (x:Im.W):Im.hsz x % 4 = 0:=by
 unfold Im.hsz Nm.lengthN
 split <;> omega
theorem Im.wsz_mod (x:Im.W):Im.wsz x % 4 = 0:=by
 have:=Im.hsz_mod x
 unfold Im.wsz
 omega
def Im.slot (last:List (List UInt8)) (la:List Nat) (k:Nat):L6.Line × List UInt8:=(⟨if k = 0 then [[104]] else [],As.tWord,[Im.either (last.getD k [])]⟩,As.four (la.getD k 0))
def Im.slots (last:List (List UInt8)) (la:List Nat):Im.Bl:=(List.range 32).map (Im.slot last la)
def Im.layL:Nat→List UInt8→List (List UInt8)→List Nat→List Im.W→Im.Bl
 | pos,prev,last,la,[]=>Im.ends prev ++ Im.slots last la
 | pos,prev,last,la,x :: r=>Im.layW pos prev (last.getD (Im.key x) []) (la.getD (Im.key x) 0) x ++ Im.layL (pos+Im.wsz x) (Im.own x) (last.set (Im.key x) (Im.hd x)) (la.set (Im.key x) pos) r
def Im.szs:List Im.W→Nat
 | []=>0
 | x :: r=>Im.wsz x+Im.szs r
theorem Im.szs_app:∀ (A B:List Im.W),Im.szs (A ++ B) = Im.szs A+Im.szs B
 | [],B=>by simp [Im.szs]
 | x :: r,B=>by rw [List.cons_append,Im.szs,Im.szs,Im.szs_app r B];omega
theorem Im.szs_mod:∀ (A:List Im.W),Im.szs A % 4 = 0
 | []=>rfl
 | x :: r=>by
  have h1:=Im.wsz_mod x
  have h2:=Im.szs_mod r
  unfold Im.szs
  omega
theorem Im.getD_set {α:Type} (l:List α) (i k:Nat) (a d:α):(l.set i a).getD k d = if i = k∧k < l.length then a else l.getD k d:=by
 rw [List.getD_eq_getElem?_getD,List.getD_eq_getElem?_getD,List.getElem?_set]
 by_cases h:i = k
 ·subst h
  by_cases h2:i < l.length
  ·rw [if_pos rfl,if_pos h2,if_pos ⟨rfl,h2⟩];rfl
  ·rw [if_pos rfl,if_neg h2,if_neg (fun e=>h2 e.2),List.getElem?_eq_none (by omega)]
 ·rw [if_neg h,if_neg (fun e=>h e.1)]
theorem Im.sz_slots {last:List (List UInt8)} {la:List Nat} (hl:∀ k,Im.Lk (last.getD k [])):∀ (ks:List Nat) (here:Nat),here+4 * ks.length≤131072→As.Sized 0 here (ks.map (Im.slot last la))
 | [],_,_=>trivial
 | k :: r,here,hb=>by
  rw [List.length_cons] at hb
  exact Im.sz_word _ _ _ (hl k).either (by omega) (Im.sz_slots hl r (here+4) (by omega))
theorem Im.layL_sized:∀ (ws:List Im.W) (pos:Nat) (prev:List UInt8) (last:List (List UInt8)) (la:List Nat),pos % 4 = 0→(∀ x ∈ ws,Im.Fine x)→pos+Im.szs ws+128≤131072→(∀ k,Im.Lk (last.getD k []))→As.Sized 0 pos (Im.layL pos prev last la ws)
 | [],pos,prev,last,la,hp,_,hb,hl=>by
  unfold Im.szs at hb
  exact Im.sz_ends prev (by omega) (Im.sz_slots hl _ _ (by rw [List.length_range];omega))
 | x :: r,pos,prev,last,la,hp,hx,hb,hl=>by
  unfold Im.szs at hb
  have hm:=Im.wsz_mod x
  have hw:Im.wsz x = Im.hsz x+4 * x.n:=rfl
  have hh:=Im.hsz_mod x
  unfold Im.layL Im.layW
  rw [List.cons_append,List.append_assoc,List.append_assoc]
  refine Im.sz_mark _ (by omega) (Im.sz_ends prev (by omega) (Im.sz_body _ _ x (hx x (by simp)) (hl _) hp (by omega) (Im.sz_nops (here:=pos) x.n _ (by omega) (by omega) ?_)))
  rw [show pos+Im.hsz x+4 * x.n = pos+Im.wsz x by omega]
  refine Im.layL_sized r (pos+Im.wsz x) _ _ _ (by omega) (fun y hy=>hx y (by simp [hy])) (by omega) (fun k=>?_)
  rw [Im.getD_set]
  split
  ·exact .inr (Im.hd_mark x)
  ·exact hl k
def Im.symE (pos:Nat) (prev:List UInt8):List (List UInt8 × Nat):=if prev = [] then [] else [(prev ++ [36],pos)]
def Im.symL:Nat→List UInt8→List Im.W→List (List UInt8 × Nat)
 | pos,prev,[]=>Im.symE pos prev ++ [([104],pos)]
 | pos,prev,x :: r=>Im.symE pos prev ++ ((Im.hd x,pos) :: (Im.own x,pos+Im.hsz x) :: Im.symL (pos+Im.wsz x) (Im.own x) r)
theorem Im.syms_ends (pos:Nat) (prev:List UInt8) (hb:pos < 4294967296):As.symsAt 0 pos (Im.ends prev) = Im.symE pos prev:=by
 unfold Im.ends Im.symE
 split
 ·rfl
 ·show [(prev ++ [36],As.at32 (0+pos))] ++ [] = _
  unfold As.at32
  rw [show (0+pos) % 4294967296 = pos by omega]
  rfl
theorem Im.syms_nops:∀ (k here:Nat),As.symsAt 0 here (List.replicate k (Im.nop,Im.nopB)) = []
 | 0,_=>rfl
 | k+1,here=>by
  rw [List.replicate_succ]
  show [] ++ As.symsAt 0 (here+4) _ = []
  rw [Im.syms_nops k]
  rfl
theorem Im.syms_body {pos:Nat} (link:List UInt8) (la:Nat) (x:Im.W) (hx:Im.Fine x) (hp:pos % 4 = 0) (hb:pos+Im.wsz x≤131072):As.symsAt 0 pos (Im.body pos link la x) = [(Im.hd x,pos),(Im.own x,pos+Im.hsz x)]:=by
 obtain ⟨e1,e2⟩:=Im.pd_eq hx.1 hp hb
 have hw:Im.wsz x = Im.hsz x+4 * x.n:=rfl
 unfold Im.body
 simp only [As.symsAt,List.map_nil,List.nil_append,List.map_cons,List.length_replicate,As.four,List.length_cons,List.length_nil,List.length_map,List.append_nil,List.cons_append]
 rw [show As.at32 (0+(pos+0)) = pos by unfold As.at32;omega,show As.at32 (0+(pos+0+(0+1+1+1+1)+(0+1+1+1+1)+(0+1+1+1+1)+(Im.ns x).length+Im.pd x+(0+1+1+1+1))) = pos+Im.hsz x by unfold As.at32;omega]
theorem Im.syms_none {last:List (List UInt8)} {la:List Nat}:∀ (ks:List Nat) (here:Nat),(∀ k ∈ ks,k ≠ 0)→As.symsAt 0 here (ks.map (Im.slot last la)) = []
 | [],_,_=>rfl
 | k :: r,here,h=>by
  rw [List.map_cons]
  show ((Im.slot last la k).1.labels.map _) ++ As.symsAt 0 _ _ = []
  rw [Im.syms_none r _ (fun j hj=>h j (by simp [hj]))]
  unfold Im.slot
  rw [if_neg (h k (by simp))]
  rfl
theorem Im.syms_slots (last:List (List UInt8)) (la:List Nat) (pos:Nat) (hb:pos < 4294967296):As.symsAt 0 pos (Im.slots last la) = [([104],pos)]:=by
 unfold Im.slots
 rw [show List.range 32 = 0 :: (List.range 31).map (·+1) from rfl,List.map_cons]
 show [([104],As.at32 (0+pos))] ++ As.symsAt 0 _ _ = _
 rw [Im.syms_none _ _ (fun k hk=>by
  obtain ⟨j,_,rfl⟩:=List.mem_map.1 hk
  omega)]
 unfold As.at32
 rw [show (0+pos) % 4294967296 = pos by omega]
 rfl
theorem Im.syms_layL:∀ (ws:List Im.W) (pos:Nat) (prev:List UInt8) (last:List (List UInt8)) (la:List Nat),pos % 4 = 0→(∀ x ∈ ws,Im.Fine x)→pos+Im.szs ws+128≤131072→As.symsAt 0 pos (Im.layL pos prev last la ws) = Im.symL pos prev ws
 | [],pos,prev,last,la,hp,_,hb=>by
  unfold Im.szs at hb
  unfold Im.layL
  rw [As.syms_app,Im.ends_len,Nat.add_zero,Im.syms_ends _ _ (by omega),Im.syms_slots _ _ _ (by omega)]
  rfl
 | x :: r,pos,prev,last,la,hp,hx,hb=>by
  unfold Im.szs at hb
  have hm:=Im.wsz_mod x
  have hf:=hx x (by simp)
  unfold Im.layL
  rw [As.syms_app,Im.layW_len _ _ _ _ _ hf.1,Im.syms_layL r _ _ _ _ (by omega) (fun y hy=>hx y (by simp [hy])) (by omega)]
  unfold Im.layW
  show ([] ++ As.symsAt 0 pos _) ++ _ = _
  rw [List.nil_append,As.syms_app,As.syms_app,Im.ends_len,Nat.add_zero,Im.syms_ends _ _ (by omega),Im.syms_body _ _ x hf hp (by omega),Im.syms_nops]
  conv=>rhs;rw [Im.symL]
  simp
theorem Im.ld_slots {sy:List (List UInt8 × Nat)} {last:List (List UInt8)} {la:List Nat} (hI:∀ k,(last.getD k [] = []∧la.getD k 0 = 0) ∨ (Im.Mark (last.getD k [])∧As.look sy (last.getD k []) = some (la.getD k 0))):∀ (ks:List Nat) (here:Nat),As.Laid sy 0 here (ks.map (Im.slot last la))
 | [],_=>trivial
 | k :: r,here=>by
  refine Im.ld_word _ _ _ ?_ (Im.ld_slots hI r (here+4))
  rcases hI k with ⟨h1,h2⟩ | ⟨h1,h2⟩
  ·rw [h1,h2];exact .inl ⟨rfl,rfl⟩
  ·refine .inr ?_
   unfold Im.either
   rw [if_neg (Im.mark_ne h1)]
   exact ⟨h1,h2⟩
theorem Im.symE_end {pos:Nat} {prev:List UInt8} (h:prev ≠ []) (ws:List Im.W):(prev ++ [36],pos) ∈ Im.symL pos prev ws:=by
 cases ws <;> (unfold Im.symL Im.symE;rw [if_neg h];simp)
theorem Im.layL_laid {sy:List (List UInt8 × Nat)} (hk:(As.keys sy).Nodup):∀ (ws:List Im.W) (pos:Nat) (prev:List UInt8) (last:List (List UInt8)) (la:List Nat),pos % 4 = 0→(∀ x ∈ ws,Im.Fine x)→pos+Im.szs ws+128≤131072→(∀ p ∈ Im.symL pos prev ws,p ∈ sy)→last.length = la.length →
  (∀ k,(last.getD k [] = []∧la.getD k 0 = 0) ∨ (Im.Mark (last.getD k [])∧As.look sy (last.getD k []) = some (la.getD k 0)))→As.Laid sy 0 pos (Im.layL pos prev last la ws)
 | [],pos,prev,last,la,hp,_,hb,hS,hL,hI=>Im.ld_ends prev (Im.ld_slots hI _ _)
 | x :: r,pos,prev,last,la,hp,hx,hb,hS,hL,hI=>by
  unfold Im.szs at hb
  have hm:=Im.wsz_mod x
  have hw:Im.wsz x = Im.hsz x+4 * x.n:=rfl
  have hf:=hx x (by simp)
  unfold Im.symL at hS
  have h1:As.look sy (Im.hd x) = some pos:=As.look_of hk (hS _ (by simp))
  have h2:As.look sy (Im.own x) = some (pos+Im.hsz x):=As.look_of hk (hS _ (by simp))
  have h3:As.look sy (Im.own x ++ [36]) = some (pos+Im.wsz x):=As.look_of hk (hS _ (by
   have:=Im.symE_end (pos:=pos+Im.wsz x) (Im.mark_ne (Im.own_mark x)) r
   simp [this]))
  unfold Im.layL Im.layW
  rw [List.cons_append,List.append_assoc,List.append_assoc]
  refine Im.ld_mark _ (Im.ld_ends prev (Im.ld_body _ _ x hf hp (by omega) (hI _) h1 h2 h3 (Im.ld_nops x.n _ ?_)))
  rw [show pos+Im.hsz x+4 * x.n = pos+Im.wsz x by omega]
  refine Im.layL_laid hk r (pos+Im.wsz x) _ _ _ (by omega) (fun y hy=>hx y (by simp [hy])) (by omega) (fun p hp=>hS p (by simp [hp])) (by rw [List.length_set,List.length_set];exact hL) (fun k=>?_)
  rw [Im.getD_set,Im.getD_set,hL]
  split
  ·rename_i e
   exact .inr ⟨Im.hd_mark x,h1⟩
  ·exact hI k
def Im.wB (pos la:Nat) (x:Im.W):List UInt8:=As.four la ++ (As.four (pos+Im.hsz x) ++ (As.four (4 * x.n) ++ (UInt8.ofNat x.fl :: UInt8.ofNat x.name.length :: (x.name ++ (List.replicate (Im.pd x) 0 ++ (As.four pos ++ (List.replicate x.n Im.nopB).flatten))))))
def Im.bytesA:Nat→List Nat→List Im.W→List UInt8
 | pos,la,[]=>[]
 | pos,la,x :: r=>Im.wB pos (la.getD (Im.key x) 0) x ++ Im.bytesA (pos+Im.wsz x) (la.set (Im.key x) pos) r
def Im.laF:Nat→List Nat→List Im.W→List Nat
 | pos,la,[]=>la
 | pos,la,x :: r=>Im.laF (pos+Im.wsz x) (la.set (Im.key x) pos) r
def Im.slotsB (la:List Nat):List UInt8:=(List.range 32).flatMap fun k=>As.four (la.getD k 0)
theorem Im.wB_eq (pos:Nat) (link:List UInt8) (la:Nat) (prev:List UInt8) (x:Im.W):(Im.layW pos prev link la x).flatMap (fun p=>p.2) = Im.wB pos la x:=by
 unfold Im.layW Im.body Im.wB
 have he:(Im.ends prev).flatMap (fun p=>p.2) = []:=by unfold Im.ends;split <;> rfl
 have hn:∀ k:Nat,(List.replicate k (Im.nop,Im.nopB)).flatMap (fun p=>p.2) = (List.replicate k Im.nopB).flatten:=fun k=>by
  rw [List.flatMap_def,List.map_replicate]
 simp only [List.flatMap_cons,List.flatMap_append,he,hn,Im.ns_bytes,List.replicate_zero,List.nil_append,List.flatMap_nil,List.append_nil,List.append_assoc,List.cons_append]
theorem Im.bytes_layL:∀ (ws:List Im.W) (pos:Nat) (prev:List UInt8) (last:List (List UInt8)) (la:List Nat),(Im.layL pos prev last la ws).flatMap (fun p=>p.2) = Im.bytesA pos la ws ++ Im.slotsB (Im.laF pos la ws)
 | [],pos,prev,last,la=>by
  unfold Im.layL Im.bytesA Im.laF
  rw [List.flatMap_append,show (Im.ends prev).flatMap (fun p=>p.2) = [] by unfold Im.ends;split <;> rfl]
  unfold Im.slots Im.slotsB
  rw [List.flatMap_map]
  rfl
 | x :: r,pos,prev,last,la=>by
  unfold Im.layL Im.bytesA Im.laF
  rw [List.flatMap_append,Im.wB_eq,Im.bytes_layL r,List.append_assoc]
theorem Im.bytesA_app:∀ (A B:List Im.W) (pos:Nat) (la:List Nat),Im.bytesA pos la (A ++ B) = Im.bytesA pos la A ++ Im.bytesA (pos+Im.szs A) (Im.laF pos la A) B
 | [],B,pos,la=>by simp [Im.bytesA,Im.szs,Im.laF]
 | x :: r,B,pos,la=>by
  rw [List.cons_append,Im.bytesA,Im.bytesA_app r B]
  rw [Im.bytesA,Im.szs,Im.laF,List.append_assoc,Nat.add_assoc]
theorem Im.laF_app:∀ (A B:List Im.W) (pos:Nat) (la:List Nat),Im.laF pos la (A ++ B) = Im.laF (pos+Im.szs A) (Im.laF pos la A) B
 | [],B,pos,la=>by simp [Im.szs,Im.laF]
 | x :: r,B,pos,la=>by
  rw [List.cons_append,Im.laF,Im.laF_app r B]
  rw [Im.szs,Im.laF,Nat.add_assoc]
theorem Im.wB_len (pos la:Nat) (x:Im.W) (hx:x.name.length≤31):(Im.wB pos la x).length = Im.wsz x:=by
 have hn:(List.replicate x.n Im.nopB).flatten.length = 4 * x.n:=by
  rw [List.length_flatten,List.map_replicate,List.sum_replicate_nat]
  show x.n * 4 = _
  omega
 unfold Im.wB
 simp only [List.length_append,List.length_cons,List.length_replicate,hn,As.four,List.length_nil]
 unfold Im.wsz Im.hsz Im.pd Nm.lengthN
 rw [if_neg (by omega)]
 omega
theorem Im.bytesA_len:∀ (ws:List Im.W) (pos:Nat) (la:List Nat),(∀ x ∈ ws,Im.Fine x)→(Im.bytesA pos la ws).length = Im.szs ws
 | [],_,_,_=>rfl
 | x :: r,pos,la,h=>by
  rw [Im.bytesA,List.length_append,Im.wB_len _ _ _ (h x (by simp)).1,Im.bytesA_len r _ _ (fun y hy=>h y (by simp [hy])),Im.szs]
theorem Im.slotsB_len (la:List Nat):(Im.slotsB la).length = 128:=by
 have h:∀ (ks:List Nat),(ks.flatMap fun k=>As.four (la.getD k 0)).length = 4 * ks.length:=by
  intro ks
  induction ks with
  | nil=>rfl
  | cons k r ih=>
   rw [List.flatMap_cons,List.length_append,ih,List.length_cons]
   show 4+_ = _
   omega
 unfold Im.slotsB
 rw [h,List.length_range]
theorem Im.sym_h:∀ (ws:List Im.W) (pos:Nat) (prev:List UInt8),([104],pos+Im.szs ws) ∈ Im.symL pos prev ws
 | [],pos,prev=>by unfold Im.symL Im.szs;simp
 | y :: A,pos,prev=>by
  have h:=Im.sym_h A (pos+Im.wsz y) (Im.own y)
  rw [Im.symL,Im.szs]
  rw [show pos+Im.wsz y+Im.szs A = pos+(Im.wsz y+Im.szs A) by omega] at h
  simp [h]
end Go.Proofs.YtpcpaoeajcjoiaaGreatDoor
namespace Go.Proofs.YtpcpaoeajcjoiaaGreatDoor
def Im.srcW (x:Im.W):List L6.Line:=⟨[],Im.tList,[Lib.decDigits x.l]⟩ :: ⟨[],Im.tDef,[x.name,Lib.decDigits x.fl]⟩ :: List.replicate x.n Im.nop
def Im.hds:L6.Line:=⟨[[104]],Im.tHeads,[]⟩
def Im.src (ws:List Im.W):List L6.Line:=Im.nop :: (ws.flatMap Im.srcW ++ [Im.hds])
theorem Im.srcl_nop (S:Im.St):Im.line Im.nop S = .ok (Im.put Im.nop S):=by
 unfold Im.line
 rw [if_neg (by decide),if_neg (by decide),if_neg (by decide),if_neg (by decide),if_neg (by decide)]
theorem Im.dec_one:Lib.decDigits 1 = [49]:=by unfold Lib.decDigits;rfl
theorem Im.srcl_list (x:Im.W) (hl:x.l≤1) (S:Im.St):Im.line ⟨[],Im.tList,[Lib.decDigits x.l]⟩ S = .ok (Im.put ⟨[],[],[]⟩ (Im.at_ x.l S)):=by
 have h:x.l = 0 ∨ x.l = 1:=by omega
 unfold Im.line
 rw [if_pos rfl]
 rcases h with h | h
 ·rw [h,Im.dec_zero,if_pos rfl]
 ·rw [h,Im.dec_one,if_neg (by decide),if_pos rfl]
theorem Im.srcl_def (x:Im.W) (hr:Nm.right x.name = true) (hf:x.fl≤15) (S:Im.St):Im.line ⟨[],Im.tDef,[x.name,Lib.decDigits x.fl]⟩ S = .ok (Im.def_ [] x.name (Lib.decDigits x.fl) S):=by
 have h:Im.flags ⟨[],Im.tDef,[x.name,Lib.decDigits x.fl]⟩ = true:=by
  unfold Im.flags
  show (decide (2 = 2) && ((L6.number (Lib.decDigits x.fl)).2 && (decide (0≤(L6.number (Lib.decDigits x.fl)).1) && decide ((L6.number (Lib.decDigits x.fl)).1≤15)))) = true
  rw [As.num_dec x.fl (by omega)]
  simp
  omega
 unfold Im.line
 rw [if_neg (show ¬ Im.tDef = Im.tList by decide),if_pos rfl,if_neg (by rw [h];decide),if_neg (by rw [List.headD_cons,hr];decide)]
 rfl
theorem Im.srcl_hds (S:Im.St):Im.line Im.hds S = .ok (Im.puts (Im.heads [[104]]) (Im.ask (Im.end_ S))):=by
 unfold Im.line
 rw [if_neg (by decide),if_neg (by decide),if_neg (by decide),if_pos (by decide),if_neg (by decide)]
 rfl
theorem Im.run_nops:∀ (k:Nat) (S:Im.St) (r:List L6.Line),Im.run S (List.replicate k Im.nop ++ r) = Im.run (Im.puts (List.replicate k Im.nop) S) r
 | 0,S,r=>by simp [Im.puts]
 | k+1,S,r=>by
  rw [List.replicate_succ,List.cons_append,Im.run,Im.srcl_nop]
  dsimp only
  rw [Im.run_nops k]
  unfold Im.puts Im.put
  simp
theorem Im.lines_body (pos:Nat) (link:List UInt8) (la:Nat) (x:Im.W):(Im.body pos link la x).map (fun p=>p.1) = Im.defs x.l [] x.name (Lib.decDigits x.fl) link ++ [⟨[Im.own x],[],[]⟩]:=by
 have h:(Im.ns x).map Lib.decDigits = Im.bytes x.name (Lib.decDigits x.fl):=by
  unfold Im.ns Im.bytes
  rw [List.map_cons,List.map_cons,List.map_map]
  rfl
 unfold Im.body Im.defs
 rw [h]
 rfl
theorem Im.lines_ends (prev:List UInt8):(Im.ends prev).map (fun p=>p.1) = if prev = [] then [] else [⟨[prev ++ [36]],[],[]⟩]:=by
 unfold Im.ends
 split <;> rfl
def Im.next (pos la:Nat) (S:Im.St) (x:Im.W):Im.St:=⟨S.out ++ (Im.layW pos S.opn (S.last.getD (Im.key x) []) la x).map (fun p=>p.1),x.l,S.last.set (Im.key x) (Im.hd x),Im.own x,S.asks⟩
theorem Im.run_word (pos la:Nat) (S:Im.St) (x:Im.W) (hr:Nm.right x.name = true) (hx:Im.Fine x) (r:List L6.Line):Im.run S (Im.srcW x ++ r) = Im.run (Im.next pos la S x) r:=by
 obtain ⟨h1,h2,h3,h4⟩:=hx
 unfold Im.srcW
 rw [List.cons_append,List.cons_append,Im.run,Im.srcl_list x h4]
 dsimp only
 rw [Im.run,Im.srcl_def x hr h2]
 dsimp only
 rw [Im.run_nops]
 congr 1
 unfold Im.next Im.layW
 rw [List.map_cons,List.map_append,List.map_append,Im.lines_ends,Im.lines_body,List.map_replicate]
 unfold Im.def_ Im.begin_ Im.puts Im.open_ Im.put Im.keep Im.at_ Im.end_
 by_cases ho:S.opn = []
 ·rw [if_pos ho,if_pos ho]
  simp [Im.own,Im.hd,Im.key]
 ·rw [if_neg ho,if_neg ho]
  simp [Im.own,Im.hd,Im.key,Im.open_,Im.put]
theorem Im.arg_app (Q:List L6.Line) (k:Nat) (a:List (List UInt8)):∀ P:List L6.Line,Im.arg (P ++ Q) (P.length+k) a = P ++ Im.arg Q k a
 | []=>by simp
 | x :: t=>by
  have h:=Im.arg_app Q k a t
  unfold Im.arg at h ⊢
  rw [List.cons_append,List.length_cons,show t.length+1+k = (t.length+k)+1 by omega,List.modify_succ_cons,h]
  rfl
theorem Im.fillK_app (last:List (List UInt8)) (P Q:List L6.Line):∀ k:Nat,Im.fillK last P.length k (P ++ Q) = P ++ Im.fillK last 0 k Q
 | 0=>rfl
 | k+1=>by
  rw [Im.fillK,Im.fillK_app last P Q k,Im.arg_app,Im.fillK,Nat.zero_add]
theorem Im.fill_slots (last:List (List UInt8)) (la:List Nat):Im.fillK last 0 32 (Im.heads [[104]]) = (Im.slots last la).map (fun p=>p.1):=by
 unfold Im.slots
 rw [List.map_map]
 show _ = (List.range 32).map fun k=>(⟨if k = 0 then [[104]] else [],As.tWord,[Im.either (last.getD k [])]⟩:L6.Line)
 rfl
theorem Im.run_words:∀ (ws:List Im.W) (S:Im.St) (pos:Nat) (la:List Nat),S.asks = []→(∀ x ∈ ws,Nm.right x.name = true∧Im.Fine x) →
  ∃ S',Im.run S (ws.flatMap Im.srcW ++ [Im.hds]) = .ok S'∧S'.opn = []∧Im.fill S' = S.out ++ (Im.layL pos S.opn S.last la ws).map (fun p=>p.1)
 | [],S,pos,la,ha,_=>by
  rw [List.flatMap_nil,List.nil_append,Im.run,Im.srcl_hds]
  dsimp only
  rw [Im.run]
  have hfill:∀ (o:List L6.Line) (l:Nat) (p:List UInt8),Im.fill (Im.puts (Im.heads [[104]]) (Im.ask ⟨o,l,S.last,p,[]⟩)) = o ++ (Im.slots S.last la).map (fun p=>p.1):=fun o l p=>by
   unfold Im.fill Im.puts Im.ask
   dsimp only
   rw [List.nil_append,Im.fillL,Im.fillL,Im.fillK_app,Im.fill_slots S.last la]
  refine ⟨_,rfl,?_,?_⟩
  ·show (Im.end_ S).opn = []
   unfold Im.end_
   split
   ·assumption
   ·rfl
  ·unfold Im.layL
   rw [List.map_append,Im.lines_ends]
   unfold Im.end_
   obtain ⟨so,sl,st,sp,sa⟩:=S
   dsimp only at ha hfill ⊢
   subst ha
   split
   ·rw [hfill];simp
   ·unfold Im.open_ Im.put
    dsimp only
    rw [hfill];simp
 | x :: r,S,pos,la,ha,hx=>by
  obtain ⟨h1,h2⟩:=hx x (by simp)
  rw [List.flatMap_cons,List.append_assoc,Im.run_word pos (la.getD (Im.key x) 0) S x h1 h2]
  obtain ⟨S',g1,g2,g3⟩:=Im.run_words r (Im.next pos (la.getD (Im.key x) 0) S x) (pos+Im.wsz x) (la.set (Im.key x) pos) ha (fun y hy=>hx y (by simp [hy]))
  refine ⟨S',g1,g2,?_⟩
  rw [g3]
  conv=>rhs;rw [Im.layL]
  unfold Im.next
  rw [List.map_append,List.append_assoc]
def Im.lay (ws:List Im.W):Im.Bl:=(Im.nop,Im.nopB) :: Im.layL 4 [] (List.replicate 32 []) (List.replicate 32 0) ws
theorem Im.run_src (ws:List Im.W) (hx:∀ x ∈ ws,Nm.right x.name = true∧Im.Fine x):∃ S,Im.run Im.start (Im.src ws) = .ok S∧S.opn = []∧Im.fill S = (Im.lay ws).map (fun p=>p.1):=by
 unfold Im.src
 rw [Im.run,Im.srcl_nop]
 dsimp only
 obtain ⟨S',g1,g2,g3⟩:=Im.run_words ws (Im.put Im.nop Im.start) 4 (List.replicate 32 0) rfl hx
 exact ⟨S',g1,g2,g3⟩
theorem Im.lay_assemble (ws:List Im.W) (hx:∀ x ∈ ws,Im.Fine x) (hl:(Im.lay ws).length≤32768) (hs:Im.szs ws≤130000) :
  (∃ n,As.assemble ((Im.lay ws).map fun p=>p.1) 0 = ⟨[],[],n,42⟩) ∨
   ((As.keys (Im.symL 4 [] ws)).Nodup∧As.assemble ((Im.lay ws).map fun p=>p.1) 0 = ⟨Im.nopB ++ (Im.bytesA 4 (List.replicate 32 0) ws ++ Im.slotsB (Im.laF 4 (List.replicate 32 0) ws)),Im.symL 4 [] ws,0,0⟩):=by
 have hz:∀ k,(List.replicate 32 ([]:List UInt8)).getD k [] = []:=fun k=>by
  rw [List.getD_eq_getElem?_getD,List.getElem?_replicate]
  split <;> rfl
 have hz2:∀ k,(List.replicate 32 (0:Nat)).getD k 0 = 0:=fun k=>by
  rw [List.getD_eq_getElem?_getD,List.getElem?_replicate]
  split <;> rfl
 have h1:As.Sized 0 0 (Im.lay ws):=Im.sz_nop _ (by decide) (by decide) (Im.layL_sized ws 4 [] _ _ (by decide) hx (by omega) fun k=>.inl (hz k))
 have hsy:As.symsAt 0 0 (Im.lay ws) = Im.symL 4 [] ws:=by
  unfold Im.lay
  show [] ++ As.symsAt 0 4 _ = _
  rw [List.nil_append,Im.syms_layL ws 4 [] _ _ (by decide) hx (by omega)]
 have hb:(Im.lay ws).flatMap (fun p=>p.2) = Im.nopB ++ (Im.bytesA 4 (List.replicate 32 0) ws ++ Im.slotsB (Im.laF 4 (List.replicate 32 0) ws)):=by
  unfold Im.lay
  rw [List.flatMap_cons,Im.bytes_layL]
 have:=As.assemble_laid (a:=0) (L:=Im.lay ws) rfl hl h1 (fun hk=>by
  rw [hsy] at hk ⊢
  exact Im.ld_nop _ (Im.layL_laid hk ws 4 [] _ _ (by decide) hx (by omega) (fun p hp=>hp) (by rw [List.length_replicate,List.length_replicate]) fun k=>.inl ⟨hz k,hz2 k⟩))
 rw [hsy,hb] at this
 exact this
end Go.Proofs.YtpcpaoeajcjoiaaGreatDoor
namespace Go.Proofs.YtpcpaoeajcjoiaaGreatDoor
theorem F8.run_none:∀ (l:List L6.Line) (n:Nat) (S:F8.St),(∀ x ∈ l,F8.kind x.word = none∧x.labels.any F8.made = false)→F8.run F8.own n S l = .inr ⟨S.out ++ l,S.opn,S.made⟩
 | [],n,S,_=>by simp [F8.run]
 | x :: t,n,S,h=>by
  obtain ⟨h1,h2⟩:=h x (by simp)
  rw [F8.run,show F8.step F8.own S x = .ok ⟨S.out ++ [x],S.opn,S.made⟩ from by unfold F8.step;rw [if_neg (by rw [h2];decide),h1]]
  dsimp only
  rw [F8.run_none t _ _ (fun y hy=>h y (by simp [hy]))]
  simp
theorem F8.plain_bare (l:List L6.Line) (h:∀ x ∈ l,F8.kind x.word = none∧x.labels.any F8.made = false):F8.plain l = (l,0,0):=by
 unfold F8.plain
 rw [F8.run_none l 0 F8.start h]
 rfl
theorem L6.parseL_text:∀ (ls:List L6.Line) (n:Nat) (acc:List L6.Line),(∀ x ∈ ls,L6.right x = true∧(Lib.join (L6.lineWords x) [32]).length≤256) →
  L6.parseL n acc (ls.map fun x=>Lib.join (L6.lineWords x) [32]) = (acc ++ ls,0,0)
 | [],n,acc,_=>by simp [L6.parseL]
 | x :: t,n,acc,h=>by
  obtain ⟨h1,h2⟩:=h x (by simp)
  rw [List.map_cons,L6.parseL,if_neg (by omega),L6.wordsOf_join fun y hy=>(L6.line_wd h1 y hy).1]
  dsimp only
  rw [L6.line_back h1,L6.parseL_text t _ _ fun y hy=>h y (by simp [hy])]
  simp
theorem L6.parse_text {ls:List L6.Line} (h:∀ x ∈ ls,L6.right x = true∧(Lib.join (L6.lineWords x) [32]).length≤256) (hl:ls.length≤32768):L6.parse (L6.text ls) = (ls,0,0):=by
 unfold L6.parse
 rw [L6.split_text fun x hx=>(h x hx).1,List.length_map,if_neg (by omega),L6.parseL_text ls 0 [] h]
 rfl
structure Im.Ok (x:Im.W):Prop where
 right:Nm.right x.name = true
 whole:L6.whole x.name = true
 fine:Im.Fine x
theorem Im.dec15 (n:Nat) (h:n≤15):L6.whole (Lib.decDigits n) = true∧(Lib.decDigits n).length≤2:=by
 have:∀ i:Fin 16,L6.whole (Lib.decDigits i.val) = true∧(Lib.decDigits i.val).length≤2:=by decide +kernel
 exact this ⟨n,by omega⟩
theorem Im.nop_right:L6.right Im.nop = true∧(Lib.join (L6.lineWords Im.nop) [32]).length≤256:=by decide +kernel
theorem Im.hds_right:L6.right Im.hds = true∧(Lib.join (L6.lineWords Im.hds) [32]).length≤256:=by decide +kernel
theorem Im.list_right (n:Nat) (h:n≤1):L6.right ⟨[],Im.tList,[Lib.decDigits n]⟩ = true∧(Lib.join (L6.lineWords ⟨[],Im.tList,[Lib.decDigits n]⟩) [32]).length≤256:=by
 have h:n = 0 ∨ n = 1:=by omega
 rcases h with rfl | rfl <;> decide +kernel
theorem Im.tDef_right:L6.whole Im.tDef = true∧L6.quoted Im.tDef = false∧L6.label Im.tDef = false:=by decide +kernel
theorem Im.def_right (x:Im.W) (h:Im.Ok x):L6.right ⟨[],Im.tDef,[x.name,Lib.decDigits x.fl]⟩ = true∧(Lib.join (L6.lineWords ⟨[],Im.tDef,[x.name,Lib.decDigits x.fl]⟩) [32]).length≤256:=by
 obtain ⟨h1,h2,h3,h4,h5,h6⟩:=h
 obtain ⟨d1,d2⟩:=Im.dec15 x.fl h4
 obtain ⟨t1,t2,t3⟩:=Im.tDef_right
 refine ⟨?_,?_⟩
 ·unfold L6.right
  simp only [List.any_nil,List.any_cons,h2,d1,Bool.not_true,Bool.or_false,Bool.false_or,Bool.not_false,Bool.true_and]
  rw [if_neg (show ¬ Im.tDef = [] by decide),t1,t2,t3]
  rfl
 ·show (Lib.join ([] ++ (if Im.tDef = [] then [] else [Im.tDef]) ++ [x.name,Lib.decDigits x.fl]) [32]).length≤256
  rw [if_neg (by decide)]
  show (Lib.join [Im.tDef,x.name,Lib.decDigits x.fl] [32]).length≤256
  have hj:=L6.join_len [Im.tDef,x.name,Lib.decDigits x.fl]
  have e:L6.tsum [Im.tDef,x.name,Lib.decDigits x.fl] = 3+(x.name.length+((Lib.decDigits x.fl).length+0)):=by simp [L6.tsum,Im.tDef]
  rw [e] at hj
  simp only [List.length_cons,List.length_nil] at hj
  omega
theorem Im.src_right (ws:List Im.W) (h:∀ x ∈ ws,Im.Ok x):∀ y ∈ Im.src ws,L6.right y = true∧(Lib.join (L6.lineWords y) [32]).length≤256:=by
 intro y hy
 unfold Im.src at hy
 rcases List.mem_cons.1 hy with rfl | hy
 ·exact Im.nop_right
 rcases List.mem_append.1 hy with hy | hy
 ·obtain ⟨x,hx,hy⟩:=List.mem_flatMap.1 hy
  unfold Im.srcW at hy
  rcases List.mem_cons.1 hy with rfl | hy
  ·exact Im.list_right _ (h x hx).fine.2.2.2
  rcases List.mem_cons.1 hy with rfl | hy
  ·exact Im.def_right x (h x hx)
  ·rw [(List.mem_replicate.1 hy).2];exact Im.nop_right
 ·rw [List.mem_singleton.1 hy];exact Im.hds_right
theorem Im.srcW_len (x:Im.W):(Im.srcW x).length = 2+x.n:=by simp [Im.srcW];omega
theorem Im.src_len (ws:List Im.W) (h:∀ x ∈ ws,x.n≤3):(Im.src ws).length≤2+5 * ws.length:=by
 have:∀ l:List Im.W,(∀ x ∈ l,x.n≤3)→(l.flatMap Im.srcW).length≤5 * l.length:=by
  intro l
  induction l with
  | nil=>intro _;exact Nat.le_refl _
  | cons x t ih=>
   intro hx
   have h1:=ih fun y hy=>hx y (by simp [hy])
   have h2:=hx x (by simp)
   rw [List.flatMap_cons,List.length_append,Im.srcW_len,List.length_cons]
   omega
 have:=this ws h
 unfold Im.src
 rw [List.length_cons,List.length_append,List.length_singleton]
 omega
theorem Im.src_parse (ws:List Im.W) (h:∀ x ∈ ws,Im.Ok x) (hl:ws.length≤6000):L6.parse (L6.text (Im.src ws)) = (Im.src ws,0,0):=
 L6.parse_text (Im.src_right ws h) (by have:=Im.src_len ws fun x hx=>(h x hx).fine.2.2.1;omega)
structure Im.LineOk (x:L6.Line):Prop where
 kind:F8.kind x.word = none
 made:x.labels.any F8.made = false
 labels:x.labels.length≤1
 args:x.args.length≤40
 ls:∀ s ∈ x.labels,s.length≤40
 ars:∀ s ∈ x.args,s.length≤40
 word:x.word.length≤10
end Go.Proofs.YtpcpaoeajcjoiaaGreatDoor
