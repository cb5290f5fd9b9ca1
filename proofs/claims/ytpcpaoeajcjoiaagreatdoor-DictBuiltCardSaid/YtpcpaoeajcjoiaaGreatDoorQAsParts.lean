/- Texts joined, what is not reached left out. -/
import Derived.Test.YtpcpaoeajcjoiaaGreatDoorQAsPlain
set_option linter.unusedVariables false
set_option linter.unusedSimpArgs false
namespace Go.Proofs.YtpcpaoeajcjoiaaGreatDoor
structure As.Wf (p:As.P):Prop where
 code:p.code = true→p.bytes = []∧p.kind≤3
 data:p.code = false→p.kind = 0 ∨ ((p.kind = 4 ∨ p.kind = 5)∧p.bytes.length = 4)
def As.WfL (l:List As.P):Prop:=∀ p ∈ l,As.Wf p
theorem As.WfL.snoc {l:List As.P} {p:As.P} (h:As.WfL l) (hp:As.Wf p):As.WfL (l ++ [p]):=fun q hq=>by
 rcases List.mem_append.1 hq with hq | hq
 ·exact h q hq
 ·rw [List.mem_singleton.1 hq];exact hp
theorem As.next_p (x:As.L):(As.next x).2.p = x.p:=by unfold As.next;split <;> rfl
theorem As.reg_p (x:As.L):(As.reg x).2.p = x.p:=As.next_p x
theorem As.num_p (x:As.L):(As.num x).2.p = x.p:=As.next_p x
theorem As.name_p (x:As.L):(As.name x).2.p = x.p:=As.next_p x
theorem As.either_p (x:As.L):(As.either x).2.p = x.p:=by
 unfold As.either
 split
 ·exact As.name_p x
 ·split
  ·rfl
  ·exact As.name_p x
theorem As.Wf.code' (i:Is.Inst) (k:Nat) (n:List UInt8) (hk:k≤3):As.Wf ⟨true,i,[],k,n,[]⟩:=⟨fun _=>⟨rfl,hk⟩,fun h=>(by cases h)⟩
theorem As.Wf.raw (b:List UInt8):As.Wf (As.raw b):=⟨fun h=>(by cases h),fun _=>.inl rfl⟩
theorem As.code_wf {i:Is.Inst} {x:As.L} (h:As.WfL x.p):As.WfL (As.code i x).p:=h.snoc (As.Wf.code' i 0 [] (by decide))
theorem As.to_wf {i:Is.Inst} {x:As.L} (h:As.WfL x.p):As.WfL (As.to i x).p:=by
 have:As.WfL (As.either x).2.p:=by rw [As.either_p];exact h
 exact this.snoc (As.Wf.code' _ _ _ (by split <;> decide))
theorem As.reg_wf {x:As.L} (h:As.WfL x.p):As.WfL (As.reg x).2.p:=by rw [As.reg_p];exact h
theorem As.num_wf {x:As.L} (h:As.WfL x.p):As.WfL (As.num x).2.p:=by rw [As.num_p];exact h
theorem As.name_wf {x:As.L} (h:As.WfL x.p):As.WfL (As.name x).2.p:=by rw [As.name_p];exact h
theorem As.inst_wf (op:Int) {x:As.L} (h:As.WfL x.p):As.WfL (As.inst op x).p:=by
 unfold As.inst
 (repeat' split) <;> first
  | exact As.code_wf (As.num_wf (As.reg_wf (As.reg_wf h)))
  | exact As.code_wf (As.reg_wf (As.num_wf (As.reg_wf h)))
  | exact As.code_wf (As.reg_wf (As.reg_wf (As.reg_wf h)))
  | exact As.code_wf (As.num_wf (As.reg_wf h))
  | exact As.code_wf (As.num_wf h)
  | exact As.code_wf h
  | exact As.to_wf (As.reg_wf (As.reg_wf h))
  | exact As.to_wf (As.reg_wf h)
theorem As.number_wf (d n:Int) {x:As.L} (h:As.WfL x.p):As.WfL (As.number d n x).p:=by
 unfold As.number
 split
 ·exact As.code_wf h
 ·exact As.code_wf (As.code_wf h)
theorem As.pseudo_wf (w:List UInt8) {x y:As.L} (h:As.WfL x.p) (e:As.pseudo w x = some y):As.WfL y.p:=by
 unfold As.pseudo at e
 (repeat' split at e) <;> first
  | (injection e with e;subst e;first
    | exact As.number_wf _ _ (As.num_wf (As.reg_wf h))
    | exact ((As.name_wf (As.reg_wf h)).snoc (As.Wf.code' _ 2 _ (by decide))).snoc (As.Wf.code' _ 3 _ (by decide))
    | exact As.code_wf (As.reg_wf (As.reg_wf h))
    | exact As.to_wf (As.reg_wf h)
    | exact As.code_wf h
    | exact As.to_wf h)
  | cases e
theorem As.word1_wf {x:As.L} (h:As.WfL x.p):As.WfL (As.word1 x).p:=by
 have h1:As.WfL (As.either x).2.p:=by rw [As.either_p];exact h
 refine h1.snoc ⟨fun h=>(by cases h),fun _=>?_⟩
 show (if _ then 0 else 4) = 0 ∨ _
 split
 ·exact .inl rfl
 ·exact .inr ⟨.inl rfl,rfl⟩
theorem As.byte1_wf {x:As.L} (h:As.WfL x.p):As.WfL (As.byte1 x).p:=by
 have h1:As.WfL (As.num x).2.p:=by rw [As.num_p];exact h
 exact h1.snoc (As.Wf.raw _)
theorem As.loop_wf {f:As.L→As.L} (hf:∀ {x:As.L},As.WfL x.p→As.WfL (f x).p):∀ (n:Nat) {x:As.L},As.WfL x.p→As.WfL (As.loop f n x).p
 | 0,x,h=>h
 | n+1,x,h=>by
  unfold As.loop
  split
  ·exact hf h
  ·exact As.loop_wf hf n (hf h)
theorem As.data_wf (w:List UInt8) (a:Nat) {x y:As.L} (h:As.WfL x.p) (e:As.data w a x = some y):As.WfL y.p:=by
 have hn:As.WfL (As.next x).2.p:=by rw [As.next_p];exact h
 have hm:=As.num_wf h
 have hs:As.WfL (As.name (As.name x).2).2.p:=As.name_wf (As.name_wf h)
 unfold As.data at e
 split at e
 ·injection e with e;subst e;exact As.loop_wf As.word1_wf _ h
 split at e
 ·injection e with e;subst e;exact As.loop_wf As.byte1_wf _ h
 split at e
 ·injection e with e;subst e
  split
  ·exact hn.snoc (As.Wf.raw _)
  ·exact hn
 split at e
 ·injection e with e;subst e
  split
  ·exact hm.snoc (As.Wf.raw _)
  ·exact hm
 split at e
 ·injection e with e;subst e;exact h.snoc (As.Wf.raw _)
 split at e
 ·injection e with e;subst e
  exact hs.snoc ⟨fun h=>(by cases h),fun _=>.inr ⟨.inr rfl,rfl⟩⟩
 ·cases e
theorem As.pieces_wf {l:L6.Line} {a:Nat} {p:List As.P} (e:As.pieces l a = some p):As.WfL p:=by
 have h0:As.WfL (⟨l.args,true,[]⟩:As.L).p:=fun q hq=>by cases hq
 unfold As.pieces at e
 split at e
 ·injection e with e;subst e;exact fun q hq=>by cases hq
 ·split at e
  ·cases e
  ·rename_i y hy
   have hd:p = y.p:=by
    unfold As.done at e
    split at e
    ·injection e with e;exact e.symm
    ·cases e
   subst hd
   unfold As.read at hy
   split at hy
   ·injection hy with hy;subst hy;exact As.inst_wf _ h0
   ·split at hy
    ·rename_i z hz
     injection hy with hy;subst hy;exact As.pseudo_wf _ h0 hz
    ·exact As.data_wf _ _ h0 hy
theorem As.four_len (v:Nat):(As.four v).length = 4:=rfl
theorem As.piece_len {sy:List (List UInt8 × Nat)} {p:As.P} {a:Nat} (hw:As.Wf p) (h:(As.piece sy p a).2 = 0):(As.piece sy p a).1.length = As.size1 p:=by
 unfold As.piece at h ⊢
 unfold As.size1
 by_cases h1:p.kind = 0∧p.code = false
 ·rw [if_pos h1,h1.2];simp
 rw [if_neg h1] at h ⊢
 by_cases h2:p.kind ≠ 0∧As.look sy p.name = none
 ·rw [if_pos h2] at h;cases h
 rw [if_neg h2] at h ⊢
 by_cases h5:p.kind = 5
 ·rw [if_pos h5] at h ⊢
  have hc:p.code = false:=by
   cases hc:p.code
   ·rfl
   ·have:=(hw.code hc).2;omega
  rw [hc]
  split at h
  ·cases h
  ·have hd:=hw.data hc
   rcases hd with hd | hd
   ·omega
   ·simp [hd.2,As.four_len]
 rw [if_neg h5] at h ⊢
 by_cases h4:p.kind = 4
 ·rw [if_pos h4] at h ⊢
  have hc:p.code = false:=by
   cases hc:p.code
   ·rfl
   ·have:=(hw.code hc).2;omega
  rw [hc]
  rcases hw.data hc with hd | hd
  ·omega
  ·simp [hd.2,As.four_len]
 rw [if_neg h4] at h ⊢
 have hc:p.code = true:=by
  cases hc:p.code
  ·rcases hw.data hc with hd | ⟨hd | hd,_⟩
   ·exact absurd ⟨hd,hc⟩ h1
   ·exact absurd hd h4
   ·exact absurd hd h5
  ·rfl
 rw [(hw.code hc).1,hc]
 split at h
 ·rename_i h3;rw [if_pos h3];rfl
 ·rename_i h3
  exfalso
  have:(As.aim p ((As.look sy p.name).getD 0) a).2 = 43 ∨ (As.aim p ((As.look sy p.name).getD 0) a).2 = 20:=by
   unfold As.aim
   (repeat' split) <;> simp
  rcases this with e | e <;> (rw [e] at h;cases h)
theorem As.size_cons (p:As.P) (r:List As.P):As.size (p :: r) = As.size1 p+As.size r:=by simp [As.size]
def As.keys (sy:List (List UInt8 × Nat)):List (List UInt8):=sy.map fun p=>p.1
theorem As.any_mem (sy:List (List UInt8 × Nat)) (s:List UInt8):(sy.any fun p=>p.1 == s) = true ↔ s ∈ As.keys sy:=by
 unfold As.keys
 rw [List.any_eq_true,List.mem_map]
 constructor
 ·rintro ⟨p,hp,e⟩;exact ⟨p,hp,by simpa using e⟩
 ·rintro ⟨p,hp,e⟩;exact ⟨p,hp,by simpa using e⟩
theorem As.labels_nodup {a:Nat}:∀ {t:List (List UInt8)} {sy sy1:List (List UInt8 × Nat)},(As.keys sy).Nodup→As.labels a t sy = some sy1→(As.keys sy1).Nodup
 | [],sy,sy1,hn,h=>by injection h with h;subst h;exact hn
 | s :: t,sy,sy1,hn,h=>by
  unfold As.labels at h
  split at h
  ·cases h
  ·rename_i h1
   refine As.labels_nodup (t:=t) ?_ h
   have hm:s ∉ As.keys sy:=fun e=>h1 ((As.any_mem sy s).2 e)
   unfold As.keys at hm hn ⊢
   rw [List.map_append,List.nodup_append]
   exact ⟨hn,by simp,fun x hx y hy e=>hm (by
    have:y = s:=by simpa using hy
    rw [← this,← e];exact hx)⟩
theorem As.first_nodup {a:Nat}:∀ {l:List L6.Line} {i here:Nat} {sy sy1:List (List UInt8 × Nat)},(As.keys sy).Nodup→As.first a i here sy l = .ok sy1→(As.keys sy1).Nodup
 | [],i,here,sy,sy1,hn,h=>by
  unfold As.first at h
  injection h with h
  subst h
  exact hn
 | x :: r,i,here,sy,sy1,hn,h=>by
  unfold As.first at h
  cases hl:As.labels (As.at32 (a+here)) x.labels sy with
  | none=>rw [hl] at h;cases h
  | some sy2=>
   rw [hl] at h
   dsimp only at h
   cases hp:As.pieces x (As.at32 (a+here)) with
   | none=>rw [hp] at h;cases h
   | some p=>
    rw [hp] at h
    dsimp only at h
    split at h
    ·cases h
    split at h
    ·cases h
    exact As.first_nodup (As.labels_nodup hn hl) h
theorem As.first_err {a:Nat}:∀ {l:List L6.Line} {i here n:Nat} {sy:List (List UInt8 × Nat)},As.first a i here sy l = .bad n 0→False
 | [],i,here,n,sy,h=>by unfold As.first at h;cases h
 | x :: r,i,here,n,sy,h=>by
  unfold As.first at h
  split at h
  ·cases h
  split at h
  ·cases h
  split at h
  ·cases h
  split at h
  ·cases h
  exact As.first_err h
theorem As.second_err {a:Nat} {sy:List (List UInt8 × Nat)}:∀ {l:List L6.Line} {i n:Nat} {b:List UInt8},As.second sy a i b l = .bad n 0→False
 | [],i,n,b,h=>by unfold As.second at h;cases h
 | x :: r,i,n,b,h=>by
  unfold As.second at h
  split at h
  ·exact As.second_err h
  ·rename_i h1
   injection h with _ h
   exact h1 h
end Go.Proofs.YtpcpaoeajcjoiaaGreatDoor
