/- Texts joined, what is not reached left out. -/
import Derived.Test.YtpcpaoeajcjoiaaGreatDoorMS
import Derived.Test.YtpcpaoeajcjoiaaGreatDoorLT
import Derived.Test.YtpcpaoeajcjoiaaGreatDoorKC
import Derived.Test.YtpcpaoeajcjoiaaGreatDoorPA
set_option linter.unusedVariables false
set_option linter.unusedSimpArgs false
namespace Go.Proofs.YtpcpaoeajcjoiaaGreatDoor
def As.Sized (a : Nat) : Nat → List (L6.Line × List UInt8) → Prop
 | _,[]=>True
 | here,(x,bs) :: r=>(∃ p,As.pieces x (As.at32 (a + here)) = some p ∧ As.size p = bs.length ∧ (As.lead p = true → As.at32 (a + here) % 4 = 0)) ∧ here + bs.length ≤ 131072 ∧ As.Sized a (here + bs.length) r
def As.symsAt (a : Nat) : Nat → List (L6.Line × List UInt8) → List (List UInt8 × Nat)
 | _,[]=>[]
 | here,(x,bs) :: r=>x.labels.map (fun s=>(s,As.at32 (a + here))) ++ As.symsAt a (here + bs.length) r
theorem As.labels_new (a : Nat) : ∀ (t : List (List UInt8)) (sy : List (List UInt8 × Nat)),(As.keys sy ++ t).Nodup → As.labels a t sy = some (sy ++ t.map fun s=>(s,a))
 | [],sy,_=>by simp [As.labels]
 | s :: t,sy,h=>by
  unfold As.labels
  rw [if_neg,As.labels_new a t (sy ++ [(s,a)]) (by simpa [As.keys] using h)]
  ·simp
  ·intro e
   rw [As.any_mem] at e
   exact (List.nodup_append.1 h).2.2 s e s (by simp) rfl
theorem As.first_new (a : Nat) : ∀ (L : List (L6.Line × List UInt8)) (i here : Nat) (sy : List (List UInt8 × Nat)),As.Sized a here L → (As.keys (sy ++ As.symsAt a here L)).Nodup →
  As.first a i here sy (L.map fun p=>p.1) = .ok (sy ++ As.symsAt a here L)
 | [],i,here,sy,_,_=>by simp [As.first,As.symsAt]
 | (x,bs) :: r,i,here,sy,⟨⟨p,h1,h2,h3⟩,h4,h5⟩,hn=>by
  rw [List.map_cons,As.first]
  rw [As.symsAt,← List.append_assoc] at hn
  have hn2 : (As.keys sy ++ x.labels).Nodup:=by
   have:=hn
   unfold As.keys at this
   rw [List.map_append] at this
   have:=(List.nodup_append.1 this).1
   simpa [As.keys,List.map_map,Function.comp_def] using this
  rw [As.labels_new _ _ _ hn2]
  dsimp only
  rw [h1]
  dsimp only
  rw [if_neg (fun e=>e.2 (h3 e.1)),if_neg (by omega),h2,As.first_new a r _ _ _ h5 hn,As.symsAt,List.append_assoc]
theorem As.look_of {sy : List (List UInt8 × Nat)} : ∀ {s : List UInt8} {v : Nat},(As.keys sy).Nodup → (s,v) ∈ sy → As.look sy s = some v:=by
 induction sy with
 | nil=>intro s v _ h;cases h
 | cons q t ih=>
  intro s v hn h
  unfold As.keys at hn
  rw [List.map_cons,List.nodup_cons] at hn
  unfold As.look
  rw [List.find?_cons]
  rcases List.mem_cons.1 h with h | h
  ·subst h;simp
  ·have hne : (q.1 == s) = false:=by
    rw [beq_eq_false_iff_ne]
    intro e
    exact hn.1 (List.mem_map.2 ⟨(s,v),h,e.symm⟩)
   rw [hne]
   exact ih hn.2 h
end Go.Proofs.YtpcpaoeajcjoiaaGreatDoor
namespace Go.Proofs.YtpcpaoeajcjoiaaGreatDoor
open Go.RowKit Kit
theorem L6.note_two (l : List UInt8) : L6.note l = (decide (1 < l.length) && (l.getD 0 0 == 47) && (l.getD 1 0 == 47)):=by
 match l with
 | []=>rfl
 | [a]=>by_cases h : a = 47 <;> simp [L6.note,h]
 | a :: b :: t=>
  by_cases h : a = 47
  ·by_cases h' : b = 47
   ·subst h h';rfl
   ·subst h;simp [L6.note,h']
  ·simp [L6.note,h]
theorem L6.label_at (l : List UInt8) (h : 1 < l.length) : L6.label l = ((l.getD (l.length - 1) 0 == 58) && (l.getD 0 0 != 34)):=by
 unfold L6.label
 rw [decide_eq_true h,Bool.true_and]
 have e1 : l.getLastD 0 = l.getD (l.length - 1) 0:=by
  rcases List.eq_nil_or_concat l with rfl | ⟨t,d,rfl⟩
  ·simp at h
  ·rw [List.concat_eq_append];simp [List.getD]
 have e2 : l.headD 0 = l.getD 0 0:=by cases l <;> simp [List.getD]
 rw [e1,e2]
theorem L6.whole_ne {s : List UInt8} (h : L6.whole s = true) : s ≠ []:=by
 rintro rfl
 revert h
 decide
theorem L6.split_free : ∀ {p t : List UInt8},10 ∉ p → L6.split (p ++ 10 :: t) = p :: L6.split t
 | [],t,_=>by simp [L6.split_cons]
 | c :: p,t,h=>by
  have hc : c ≠ 10:=fun e=>h (by simp [e])
  have hp : 10 ∉ p:=fun e=>h (by simp [e])
  rw [List.cons_append,L6.split_cons,if_neg hc,L6.split_free hp]
theorem L6.quote_app : ∀ {t a b : List UInt8} (r : List UInt8),L6.quote t = some (a,b) → L6.quote (t ++ r) = some (a,b ++ r)
 | [],a,b,r,h=>by simp [L6.quote] at h
 | c :: t,a,b,r,h=>by
  unfold L6.quote at h
  rw [List.cons_append]
  unfold L6.quote
  by_cases hc : c = 34
  ·rw [if_pos hc] at h ⊢
   cases h
   rfl
  ·rw [if_neg hc] at h ⊢
   cases hq : L6.quote t with
   | none=>rw [hq] at h;cases h
   | some p=>
    obtain ⟨a',b'⟩:=p
    rw [hq] at h
    rw [L6.quote_app r hq]
    cases h
    rfl
theorem L6.word_app : ∀ {w r : List UInt8},(∀ c ∈ w,L6.blank c = false) → L6.free r = true → L6.word (w ++ r) = w ∧ L6.behind (w ++ r) = r
 | [],r,_,hr=>by
  cases r with
  | nil=>exact ⟨rfl,rfl⟩
  | cons c t=>
   have hc : L6.blank c = true:=hr
   simp [L6.word,L6.behind,hc]
 | c :: w,r,h,hr=>by
  have hc:=h c (by simp)
  obtain ⟨h1,h2⟩:=L6.word_app (w:=w) (r:=r) (fun d hd=>h d (by simp [hd])) hr
  rw [List.cons_append]
  simp [L6.word,L6.behind,hc,h1,h2]
theorem L6.word_all : ∀ {w : List UInt8},L6.word w = w → ∀ c ∈ w,L6.blank c = false
 | [],_,c,hc=>by simp at hc
 | d :: w,h,c,hc=>by
  unfold L6.word at h
  cases hb : L6.blank d
  ·rw [hb] at h
   simp only [Bool.false_eq_true,if_false,List.cons.injEq,true_and] at h
   rcases List.mem_cons.1 hc with rfl | hc
   ·exact hb
   ·exact L6.word_all h c hc
  ·rw [hb] at h
   simp at h
structure L6.Wd (w : List UInt8) : Prop where
 ne : w ≠ []
 head : ∀ r,L6.bare (w ++ r) = w ++ r
 next : ∀ r,L6.free r = true → L6.next (w ++ r) = (w,r,true)
 note : L6.note w = false
theorem L6.bare_suffix : ∀ (l : List UInt8),(L6.bare l).length = l.length → L6.bare l = l
 | [],_=>rfl
 | c :: t,h=>by
  unfold L6.bare at h ⊢
  split
  ·rename_i hb
   rw [if_pos hb] at h
   have:=L6.bare_len t
   simp at h
   omega
  ·rfl
theorem L6.next_prefix (c : UInt8) (t : List UInt8) : (L6.next (c :: t)).2.2 = true → (L6.next (c :: t)).1 ++ (L6.next (c :: t)).2.1 = c :: t:=by
 intro h
 by_cases hc : c = 34
 ·rw [L6.next_quote hc] at h ⊢
  cases hq : L6.quote t with
  | none=>rw [hq] at h;simp at h
  | some p=>
   rw [hc]
   show 34 :: p.1 ++ p.2 = _
   rw [List.cons_append,L6.quote_len t p hq]
 ·rw [L6.next_plain hc]
  exact L6.word_behind _
theorem L6.one_word {w : List UInt8} (h : L6.wordsOf w = some [w]) : L6.next w = (w,[],true) ∧ L6.bare w = w ∧ w ≠ [] ∧ L6.note w = false:=by
 cases hb : L6.bare w with
 | nil=>rw [L6.wordsOf_bare w hb] at h;simp at h
 | cons c t=>
  rw [L6.wordsOf_next w c t hb] at h
  split at h
  ·simp at h
  ·rename_i hn
   split at h
   ·rename_i hok
    cases hr : L6.wordsOf (L6.next (c :: t)).2.1 with
    | none=>rw [hr] at h;cases h
    | some r=>
     rw [hr] at h
     simp only [Option.map_some,Option.some.injEq,List.cons.injEq] at h
     obtain ⟨h1,rfl⟩:=h
     have hp:=L6.next_prefix c t hok
     have hl:=congrArg List.length hp
     rw [h1,List.length_append] at hl
     have hbl:=L6.bare_len w
     rw [hb] at hbl
     have h0 : (L6.next (c :: t)).2.1.length = 0:=by omega
     have h2 : (L6.next (c :: t)).2.1 = []:=List.eq_nil_of_length_eq_zero h0
     have hbw : L6.bare w = w:=L6.bare_suffix w (by rw [hb];omega)
     have hw : w = c :: t:=hbw.symm.trans hb
     have e : L6.next (c :: t) = (w,[],true):=by
      rw [show L6.next (c :: t) = ((L6.next (c :: t)).1,(L6.next (c :: t)).2.1,(L6.next (c :: t)).2.2) from rfl,h1,h2,hok]
     refine ⟨by rw [← hw] at e;exact e,hw.symm,by rw [hw];simp,?_⟩
     rw [h1] at hn
     simpa using hn
   ·cases h
theorem L6.head_plain {w : List UInt8} {c : UInt8} {t : List UInt8} (hw : w = c :: t) (hb : L6.blank c = false) (r : List UInt8) : L6.bare (w ++ r) = w ++ r:=by
 rw [hw,List.cons_append]
 unfold L6.bare
 rw [if_neg (by simp [hb])]
theorem L6.wd_of {w : List UInt8} (h : L6.wordsOf w = some [w]) : L6.Wd w:=by
 obtain ⟨hn,hb,hne,hnt⟩:=L6.one_word h
 cases w with
 | nil=>exact absurd rfl hne
 | cons c t=>
  have hbl : L6.blank c = false:=L6.bare_head hb
  refine ⟨hne,L6.head_plain rfl hbl,fun r hr=>?_,hnt⟩
  by_cases hc : c = 34
  ·rw [L6.next_quote hc] at hn
   cases hq : L6.quote t with
   | none=>rw [hq] at hn;simp at hn
   | some p=>
    obtain ⟨a,b⟩:=p
    rw [hq] at hn
    simp only [Prod.mk.injEq,List.cons.injEq] at hn
    obtain ⟨⟨_,rfl⟩,rfl,_⟩:=hn
    rw [List.cons_append,L6.next_quote hc,L6.quote_app r hq]
    simp [hc,hr]
  ·rw [L6.next_plain hc] at hn
   simp only [Prod.mk.injEq] at hn
   obtain ⟨h1,h2⟩:=L6.word_app (r:=r) (L6.word_all hn.1) hr
   rw [List.cons_append,L6.next_plain hc,← List.cons_append,h1,h2]
theorem L6.note_app {l : List UInt8} (h : L6.note l = false) (hne : l ≠ []) : L6.note (l ++ [58]) = false:=by
 match l,h,hne with
 | [],_,hne=>exact absurd rfl hne
 | [a],h,_=>
  by_cases ha : a = 47
  ·subst ha;rfl
  ·unfold L6.note;split
   ·rename_i heq;simp at heq
   ·rfl
 | a :: b :: t,h,_=>
  rw [L6.note_two] at h ⊢
  simpa using h
theorem L6.wd_label {l : List UInt8} (h : L6.wordsOf l = some [l]) (hq : L6.quoted l = false) : L6.Wd (l ++ [58]):=by
 obtain ⟨hn,hb,hne,hnt⟩:=L6.one_word h
 cases l with
 | nil=>exact absurd rfl hne
 | cons c t=>
  have hbl : L6.blank c = false:=L6.bare_head hb
  have hc : c ≠ 34:=by
   rintro rfl
   unfold L6.quoted Lib.hasPrefix at hq
   simp [List.isPrefixOf] at hq
  rw [L6.next_plain hc] at hn
  simp only [Prod.mk.injEq] at hn
  have hall : ∀ d ∈ c :: t ++ [58],L6.blank d = false:=by
   intro d hd
   rcases List.mem_append.1 hd with hd | hd
   ·exact L6.word_all hn.1 d hd
   ·simp at hd;subst hd;rfl
  refine ⟨by simp,L6.head_plain (w:=c :: t ++ [58]) (c:=c) (t:=t ++ [58]) rfl hbl,fun r hr=>?_,L6.note_app hnt (by simp)⟩
  obtain ⟨h1,h2⟩:=L6.word_app (r:=r) hall hr
  have e : c :: t ++ [58] ++ r = c :: (t ++ [58] ++ r):=by simp
  rw [e,L6.next_plain hc,← e,h1,h2]
theorem L6.wordsOf_skip (c : UInt8) (l : List UInt8) (hc : L6.blank c = true) : L6.wordsOf (c :: l) = L6.wordsOf l:=by
 have e : L6.bare (c :: l) = L6.bare l:=by
  conv=>lhs;unfold L6.bare
  rw [if_pos hc]
 cases hb : L6.bare l with
 | nil=>rw [L6.wordsOf_bare l hb,L6.wordsOf_bare (c :: l) (e.trans hb)]
 | cons d t=>rw [L6.wordsOf_next l d t hb,L6.wordsOf_next (c :: l) d t (e.trans hb)]
theorem L6.wordsOf_wd {x r : List UInt8} (h : L6.Wd x) (hr : L6.free r = true) : L6.wordsOf (x ++ r) = (L6.wordsOf r).map (x :: ·):=by
 have hb:=h.head r
 cases hx : x ++ r with
 | nil=>exact absurd (List.append_eq_nil_iff.1 hx).1 h.ne
 | cons c t=>
  have hn:=h.next r hr
  rw [hx] at hb hn
  rw [L6.wordsOf_next (c :: t) c t hb,hn]
  simp [h.note]
theorem L6.joinTail_free (t : List (List UInt8)) : L6.free (Lib.joinTail [32] t) = true:=by
 cases t with
 | nil=>rfl
 | cons x r=>simp [Lib.joinTail,L6.free,L6.blank]
theorem L6.wordsOf_joinTail : ∀ {ws : List (List UInt8)},(∀ x ∈ ws,L6.Wd x) → L6.wordsOf (Lib.joinTail [32] ws) = some ws
 | [],_=>by rw [show Lib.joinTail [32] [] = [] from rfl];exact L6.wordsOf_bare [] rfl
 | x :: t,h=>by
  have e : Lib.joinTail [32] (x :: t) = 32 :: (x ++ Lib.joinTail [32] t):=by simp [Lib.joinTail]
  rw [e,L6.wordsOf_skip 32 _ rfl,L6.wordsOf_wd (h x (by simp)) (L6.joinTail_free t),L6.wordsOf_joinTail fun y hy=>h y (by simp [hy])]
  rfl
theorem L6.wordsOf_join {ws : List (List UInt8)} (h : ∀ x ∈ ws,L6.Wd x) : L6.wordsOf (Lib.join ws [32]) = some ws:=by
 cases ws with
 | nil=>exact L6.wordsOf_bare [] rfl
 | cons x t=>
  rw [Lib.join_cons,L6.wordsOf_wd (h x (by simp)) (L6.joinTail_free t),L6.wordsOf_joinTail fun y hy=>h y (by simp [hy])]
  rfl
theorem L6.right_parts {x : L6.Line} (h : L6.right x = true) : (∀ s ∈ x.labels,L6.whole s = true ∧ L6.quoted s = false) ∧ (∀ s ∈ x.args,L6.whole s = true) ∧ (x.word = [] → x.args = []) ∧ (x.word ≠ [] → L6.whole x.word = true ∧ L6.label x.word = false):=by
 have h1 : x.labels.any (fun s=>!L6.whole s) = false:=by
  cases hh : x.labels.any (fun s=>!L6.whole s)
  ·rfl
  ·rw [L6.right_labels hh] at h;cases h
 have h2 : x.labels.any L6.quoted = false:=by
  cases hh : x.labels.any L6.quoted
  ·rfl
  ·rw [L6.right_quoted hh] at h;cases h
 have h3 : x.args.any (fun s=>!L6.whole s) = false:=by
  cases hh : x.args.any (fun s=>!L6.whole s)
  ·rfl
  ·rw [L6.right_args hh] at h;cases h
 have hr:=L6.right_rest h1 h2 h3
 rw [List.any_eq_false] at h1 h2 h3
 refine ⟨fun s hs=>⟨by simpa using h1 s hs,by simpa using h2 s hs⟩,fun s hs=>by simpa using h3 s hs,fun hw=>?_,fun hw=>?_⟩
 ·rw [h,if_pos hw] at hr
  simpa using hr.symm
 ·rw [h,if_neg hw] at hr
  have:=hr.symm
  simp only [Bool.and_eq_true,Bool.not_eq_true'] at this
  exact ⟨this.1,this.2.2⟩
theorem L6.whole_parts {s : List UInt8} (h : L6.whole s = true) : L6.wordsOf s = some [s] ∧ 10 ∉ s:=by
 unfold L6.whole at h
 simpa using h
theorem L6.line_wd {x : L6.Line} (h : L6.right x = true) : ∀ y ∈ L6.lineWords x,L6.Wd y ∧ 10 ∉ y:=by
 obtain ⟨h1,h2,h3,h4⟩:=L6.right_parts h
 intro y hy
 unfold L6.lineWords at hy
 rcases List.mem_append.1 hy with hy | hy
 ·rcases List.mem_append.1 hy with hy | hy
  ·unfold L6.marked at hy
   obtain ⟨s,hs,rfl⟩:=List.mem_map.1 hy
   obtain ⟨a,b⟩:=h1 s hs
   obtain ⟨w1,w2⟩:=L6.whole_parts a
   exact ⟨L6.wd_label w1 b,by simpa using w2⟩
  ·split at hy
   ·simp at hy
   ·rename_i hw
    simp at hy
    subst hy
    obtain ⟨w1,w2⟩:=L6.whole_parts (h4 hw).1
    exact ⟨L6.wd_of w1,w2⟩
 ·obtain ⟨w1,w2⟩:=L6.whole_parts (h2 y hy)
  exact ⟨L6.wd_of w1,w2⟩
theorem L6.mark_label {s : List UInt8} (hne : s ≠ []) (hq : L6.quoted s = false) : L6.label (s ++ [58]) = true ∧ (s ++ [58]).dropLast = s:=by
 refine ⟨?_,by simp⟩
 cases s with
 | nil=>exact absurd rfl hne
 | cons c t=>
  have hc : c ≠ 34:=by
   rintro rfl
   unfold L6.quoted Lib.hasPrefix at hq
   simp [List.isPrefixOf] at hq
  rw [L6.label_at _ (by simp)]
  simp [List.getD,hc]
theorem L6.labels_marked : ∀ {l r : List (List UInt8)},(∀ s ∈ l,s ≠ [] ∧ L6.quoted s = false) → L6.labels (L6.marked l ++ r) = l ++ L6.labels r ∧ L6.rest (L6.marked l ++ r) = L6.rest r
 | [],r,_=>⟨rfl,rfl⟩
 | s :: l,r,h=>by
  obtain ⟨h1,h2⟩:=L6.labels_marked (l:=l) (r:=r) fun y hy=>h y (by simp [hy])
  obtain ⟨a,b⟩:=L6.mark_label (h s (by simp)).1 (h s (by simp)).2
  have e : L6.marked (s :: l) ++ r = (s ++ [58]) :: (L6.marked l ++ r):=rfl
  rw [e]
  constructor
  ·conv=>lhs;unfold L6.labels
   rw [if_pos a,h1,b]
   rfl
  ·conv=>lhs;unfold L6.rest
   rw [if_pos a,h2]
theorem L6.line_back {x : L6.Line} (h : L6.right x = true) : L6.line (L6.lineWords x) = x:=by
 obtain ⟨h1,h2,h3,h4⟩:=L6.right_parts h
 obtain ⟨xl,xw,xa⟩:=x
 simp only at h1 h2 h3 h4
 have hl : ∀ s ∈ xl,s ≠ [] ∧ L6.quoted s = false:=fun s hs=>⟨L6.whole_ne (h1 s hs).1,(h1 s hs).2⟩
 unfold L6.line L6.lineWords
 simp only
 rw [List.append_assoc]
 obtain ⟨e1,e2⟩:=L6.labels_marked (r:=(if xw = [] then [] else [xw]) ++ xa) hl
 rw [e1,e2]
 by_cases hw : xw = []
 ·rw [if_pos hw,h3 hw,hw]
  simp [L6.labels,L6.rest]
 ·rw [if_neg hw]
  have hlab:=(h4 hw).2
  simp [L6.labels,L6.rest,hlab]
theorem L6.join_free {ws : List (List UInt8)} (h : ∀ y ∈ ws,10 ∉ y) : 10 ∉ Lib.join ws [32]:=by
 have ht : ∀ r : List (List UInt8),(∀ y ∈ r,10 ∉ y) → 10 ∉ Lib.joinTail [32] r:=by
  intro r hr hm
  unfold Lib.joinTail at hm
  obtain ⟨l,hl,hx⟩:=List.mem_flatten.1 hm
  obtain ⟨y,hy,rfl⟩:=List.mem_map.1 hl
  rcases List.mem_append.1 hx with hx | hx
  ·simp at hx
  ·exact hr y hy hx
 cases ws with
 | nil=>simp [Lib.join_nil]
 | cons x t=>
  rw [Lib.join_cons]
  intro hm
  rcases List.mem_append.1 hm with hm | hm
  ·exact h x (by simp) hm
  ·exact ht t (fun y hy=>h y (by simp [hy])) hm
theorem L6.split_text : ∀ {ls : List L6.Line},(∀ x ∈ ls,L6.right x = true) → L6.split (L6.text ls) = ls.map fun x=>Lib.join (L6.lineWords x) [32]
 | [],_=>rfl
 | x :: t,h=>by
  have e : L6.text (x :: t) = Lib.join (L6.lineWords x) [32] ++ 10 :: L6.text t:=by
   show L6.lineText x ++ L6.text t = _
   unfold L6.lineText
   simp
  rw [e,L6.split_free (L6.join_free fun y hy=>(L6.line_wd (h x (by simp)) y hy).2),L6.split_text fun y hy=>h y (by simp [hy])]
  rfl
end Go.Proofs.YtpcpaoeajcjoiaaGreatDoor
namespace Go.Proofs.YtpcpaoeajcjoiaaGreatDoor
def As.okB (c : UInt8) : Bool:=decide (45 ≤ c.toNat) && (decide (c.toNat ≤ 122) && (decide (c.toNat ≠ 47) && decide (c.toNat ≠ 58)))
def As.dgB (c : UInt8) : Bool:=decide (48 ≤ c.toNat) && decide (c.toNat ≤ 57)
theorem As.okB_ne {c d : UInt8} (h : As.okB c = true) (hd : As.okB d = false) : c ≠ d:=fun e=>by rw [e,hd] at h;cases h
theorem As.dg_ok {c : UInt8} (h : As.dgB c = true) : As.okB c = true:=by
 unfold As.dgB at h
 unfold As.okB
 simp only [Bool.and_eq_true,decide_eq_true_eq] at h ⊢
 omega
theorem As.dg_digit (r : Nat) (h : r < 10) : As.dgB (UInt8.ofNat (48 + r)) = true ∧ L6.dig (UInt8.ofNat (48 + r)) = some r:=by
 have : ∀ r : Fin 10,As.dgB (UInt8.ofNat (48 + r.val)) = true ∧ L6.dig (UInt8.ofNat (48 + r.val)) = some r.val:=by decide
 exact this ⟨r,h⟩
theorem As.dec_dg : ∀ (n : Nat),∀ c ∈ Lib.decDigits n,As.dgB c = true:=by
 intro n
 induction n using Nat.strongRecOn with
 | ind n ih=>
  intro c hc
  unfold Lib.decDigits at hc
  split at hc
  ·rename_i h
   rw [List.mem_singleton] at hc
   rw [hc]
   exact (As.dg_digit n h).1
  ·rename_i h
   rcases List.mem_append.1 hc with hc | hc
   ·exact ih (n / 10) (by omega) c hc
   ·rw [List.mem_singleton] at hc
    rw [hc]
    exact (As.dg_digit _ (by omega)).1
theorem As.digits_app : ∀ (l : List UInt8) (n m : Nat) (t : List UInt8),L6.digits 10 n l = some m → L6.digits 10 n (l ++ t) = L6.digits 10 m t
 | [],n,m,t,h=>by
  have h : some n = some m:=h
  cases h
  rfl
 | c :: l,n,m,t,h=>by
  rw [List.cons_append]
  unfold L6.digits at h
  conv=>lhs;unfold L6.digits
  cases hd : L6.dig c with
  | none=>rw [hd] at h;cases h
  | some d=>
   rw [hd] at h
   dsimp only at h ⊢
   split at h
   ·cases h
   ·rename_i h1
    split at h
    ·cases h
    ·rename_i h2
     rw [if_neg h1,if_neg h2]
     exact As.digits_app l _ m t h
theorem As.digits_dec : ∀ (n : Nat),n ≤ 4294967295 → L6.digits 10 0 (Lib.decDigits n) = some n:=by
 intro n
 induction n using Nat.strongRecOn with
 | ind n ih=>
  intro hn
  unfold Lib.decDigits
  split
  ·rename_i h
   unfold L6.digits
   rw [(As.dg_digit n h).2]
   dsimp only
   rw [if_neg (by omega),if_neg (by omega)]
   unfold L6.digits
   rw [Nat.zero_mul,Nat.zero_add]
  ·rename_i h
   rw [As.digits_app _ 0 (n / 10) _ (ih (n / 10) (by omega) (by omega))]
   unfold L6.digits
   rw [(As.dg_digit (n % 10) (by omega)).2]
   dsimp only
   rw [if_neg (by omega),if_neg (by omega)]
   unfold L6.digits
   rw [show n / 10 * 10 + n % 10 = n by omega]
theorem As.ok_wd {s : List UInt8} (hne : s ≠ []) (h : ∀ c ∈ s,As.okB c = true) : L6.Wd s:=by
 cases s with
 | nil=>exact absurd rfl hne
 | cons c t=>
  have hb : ∀ d ∈ c :: t,L6.blank d = false:=fun d hd=>by
   have h1:=As.okB_ne (d:=32) (h d hd) (by decide)
   have h2:=As.okB_ne (d:=9) (h d hd) (by decide)
   unfold L6.blank
   simp [h1,h2]
  have hc : c ≠ 34:=As.okB_ne (h c (by simp)) (by decide)
  refine ⟨hne,L6.head_plain rfl (hb c (by simp)),fun r hr=>?_,?_⟩
  ·obtain ⟨h1,h2⟩:=L6.word_app (r:=r) hb hr
   rw [List.cons_append,L6.next_plain hc,← List.cons_append,h1,h2]
  ·have h47 : c ≠ 47:=As.okB_ne (h c (by simp)) (by decide)
   unfold L6.note
   split
   ·rename_i heq
    exact absurd (List.cons.inj heq).1 h47
   ·rfl
theorem As.ok_whole {s : List UInt8} (hne : s ≠ []) (h : ∀ c ∈ s,As.okB c = true) : L6.whole s = true:=by
 unfold L6.whole
 have h1:=L6.wordsOf_join (ws:=[s]) (fun x hx=>by rw [List.mem_singleton.1 hx];exact As.ok_wd hne h)
 have h2 : Lib.join [s] [32] = s:=by simp [Lib.join]
 rw [h2] at h1
 rw [h1]
 have h3 : (10 : UInt8) ∉ s:=fun e=>absurd (h 10 e) (by decide)
 simp [h3]
end Go.Proofs.YtpcpaoeajcjoiaaGreatDoor
namespace Go.Proofs.YtpcpaoeajcjoiaaGreatDoor
def Im.nopB : List UInt8:=[19,0,0,0]
def Im.nop : L6.Line:=⟨[],As.tNop,[]⟩
theorem Im.pieces_mark (ls : List (List UInt8)) (at_ : Nat) : As.pieces ⟨ls,[],[]⟩ at_ = some []:=by unfold As.pieces;rw [if_pos rfl]
end Go.Proofs.YtpcpaoeajcjoiaaGreatDoor
namespace Go.Proofs.YtpcpaoeajcjoiaaGreatDoor
structure Im.W where
 name : List UInt8
 fl : Nat
 n : Nat
 l : Nat
def Im.own (x : Im.W) : List UInt8:=Im.label x.l x.name
def Im.hd (x : Im.W) : List UInt8:=Im.head x.l x.name
def Im.key (x : Im.W) : Nat:=x.l * 16 + Im.bucket x.name
def Im.hsz (x : Im.W) : Nat:=Nm.lengthN x.name.length + 4
def Im.pd (x : Im.W) : Nat:=Nm.lengthN x.name.length - (14 + x.name.length)
def Im.Mark (s : List UInt8) : Prop:=∃ c t,s = c :: t ∧ (c = 61 ∨ c = 94)
theorem Im.mark_ne {s : List UInt8} (h : Im.Mark s) : s ≠ []:=by
 obtain ⟨c,t,rfl,hc⟩:=h
 simp
abbrev Im.Bl:=List (L6.Line × List UInt8)
def Im.ends (prev : List UInt8) : Im.Bl:=if prev = [] then [] else [(⟨[prev ++ [36]],[],[]⟩,[])]
def Im.ns (x : Im.W) : List Nat:=x.fl :: x.name.length :: x.name.map fun c=>c.toNat
def Im.body (pos : Nat) (link : List UInt8) (la : Nat) (x : Im.W) : Im.Bl :=
  [(⟨[], As.tAlign, []⟩, List.replicate 0 0), (⟨[Im.hd x], As.tWord, [Im.either link]⟩, As.four la), (⟨[], As.tWord, [Im.own x]⟩, As.four (pos + Im.hsz x)), (⟨[], As.tSpan, [Im.own x, Im.own x ++ [36]]⟩, As.four (4 * x.n)),
   (⟨[], As.tByte, (Im.ns x).map Lib.decDigits⟩, (Im.ns x).map UInt8.ofNat), (⟨[], As.tAlign, []⟩, List.replicate (Im.pd x) 0), (⟨[], As.tWord, [Im.hd x]⟩, As.four pos), (⟨[Im.own x], [], []⟩, [])]
def Im.layW (pos : Nat) (prev link : List UInt8) (la : Nat) (x : Im.W) : Im.Bl:=
 (⟨[],[],[]⟩,[]) :: (Im.ends prev ++ (Im.body pos link la x ++ List.replicate x.n (Im.nop,Im.nopB)))
def Im.Fine (x : Im.W) : Prop:=x.name.length ≤ 31 ∧ x.fl ≤ 15 ∧ x.n ≤ 3 ∧ x.l ≤ 1
def Im.Lk (s : List UInt8) : Prop:=s = [] ∨ Im.Mark s
theorem Im.Lk.either {s : List UInt8} (h : Im.Lk s) : Im.either s = [48] ∨ Im.Mark (Im.either s):=by
 unfold Im.either
 rcases h with rfl | h
 ·exact .inl rfl
 ·rw [if_neg (Im.mark_ne h)];exact .inr h
end Go.Proofs.YtpcpaoeajcjoiaaGreatDoor
namespace Go.Proofs.YtpcpaoeajcjoiaaGreatDoor
end Go.Proofs.YtpcpaoeajcjoiaaGreatDoor
namespace Go.Proofs.YtpcpaoeajcjoiaaGreatDoor
def Im.srcW (x : Im.W) : List L6.Line:=⟨[],Im.tList,[Lib.decDigits x.l]⟩ :: ⟨[],Im.tDef,[x.name,Lib.decDigits x.fl]⟩ :: List.replicate x.n Im.nop
def Im.hds : L6.Line:=⟨[[104]],Im.tHeads,[]⟩
def Im.src (ws : List Im.W) : List L6.Line:=Im.nop :: (ws.flatMap Im.srcW ++ [Im.hds])
def Im.next (pos la : Nat) (S : Im.St) (x : Im.W) : Im.St:=⟨S.out ++ (Im.layW pos S.opn (S.last.getD (Im.key x) []) la x).map (fun p=>p.1),x.l,S.last.set (Im.key x) (Im.hd x),Im.own x,S.asks⟩
end Go.Proofs.YtpcpaoeajcjoiaaGreatDoor
namespace Go.Proofs.YtpcpaoeajcjoiaaGreatDoor
theorem F8.run_none : ∀ (l : List L6.Line) (n : Nat) (S : F8.St),(∀ x ∈ l,F8.kind x.word = none ∧ x.labels.any F8.made = false) → F8.run F8.own n S l = .inr ⟨S.out ++ l,S.opn,S.made⟩
 | [],n,S,_=>by simp [F8.run]
 | x :: t,n,S,h=>by
  obtain ⟨h1,h2⟩:=h x (by simp)
  rw [F8.run,show F8.step F8.own S x = .ok ⟨S.out ++ [x],S.opn,S.made⟩ from by unfold F8.step;rw [if_neg (by rw [h2];decide),h1]]
  dsimp only
  rw [F8.run_none t _ _ (fun y hy=>h y (by simp [hy]))]
  simp
theorem F8.plain_bare (l : List L6.Line) (h : ∀ x ∈ l,F8.kind x.word = none ∧ x.labels.any F8.made = false) : F8.plain l = (l,0,0):=by
 unfold F8.plain
 rw [F8.run_none l 0 F8.start h]
 rfl
theorem L6.parseL_text : ∀ (ls : List L6.Line) (n : Nat) (acc : List L6.Line),(∀ x ∈ ls,L6.right x = true ∧ (Lib.join (L6.lineWords x) [32]).length ≤ 256) →
  L6.parseL n acc (ls.map fun x=>Lib.join (L6.lineWords x) [32]) = (acc ++ ls,0,0)
 | [],n,acc,_=>by simp [L6.parseL]
 | x :: t,n,acc,h=>by
  obtain ⟨h1,h2⟩:=h x (by simp)
  rw [List.map_cons,L6.parseL,if_neg (by omega),L6.wordsOf_join fun y hy=>(L6.line_wd h1 y hy).1]
  dsimp only
  rw [L6.line_back h1,L6.parseL_text t _ _ fun y hy=>h y (by simp [hy])]
  simp
theorem L6.parse_text {ls : List L6.Line} (h : ∀ x ∈ ls,L6.right x = true ∧ (Lib.join (L6.lineWords x) [32]).length ≤ 256) (hl : ls.length ≤ 32768) : L6.parse (L6.text ls) = (ls,0,0):=by
 unfold L6.parse
 rw [L6.split_text fun x hx=>(h x hx).1,List.length_map,if_neg (by omega),L6.parseL_text ls 0 [] h]
 rfl
structure Im.Ok (x : Im.W) : Prop where
 right : Nm.right x.name = true
 whole : L6.whole x.name = true
 fine : Im.Fine x
structure Im.LineOk (x : L6.Line) : Prop where
 kind : F8.kind x.word = none
 made : x.labels.any F8.made = false
 labels : x.labels.length ≤ 1
 args : x.args.length ≤ 40
 ls : ∀ s ∈ x.labels,s.length ≤ 40
 ars : ∀ s ∈ x.args,s.length ≤ 40
 word : x.word.length ≤ 10
end Go.Proofs.YtpcpaoeajcjoiaaGreatDoor
