/- Texts joined, what is not reached left out. -/
import Derived.Test.YtpcpaoeajcjoiaaGreatDoorDE
import Derived.Test.YtpcpaoeajcjoiaaGreatDoorDR
import Derived.Test.YtpcpaoeajcjoiaaGreatDoorPJ
import Derived.Test.YtpcpaoeajcjoiaaGreatDoorDS
import Derived.Test.YtpcpaoeajcjoiaaGreatDoorQA
set_option linter.unusedVariables false
set_option linter.unusedSimpArgs false
namespace Go.Proofs.YtpcpaoeajcjoiaaGreatDoor
open Go.RowKit Kit
structure Dc.Lay (b:List UInt8) (N:Nat) (pos key:Nat→Nat) (H:Nat→Dc.H) (lv:Nat→Nat→Nat):Prop where
 ne:∀ i,i < N→pos i ≠ 0
 up:∀ i j,i < j→j < N→pos i < pos j
 small:∀ i,i < N→pos i < 4294967295
 keyLt:∀ i,i < N→key i < 32
 right:∀ i,i < N→Dc.okR b (pos i) (key i % 16) = true
 here:∀ i,i < N→Dc.here b (pos i) = H i
 link:∀ i,i < N→(H i).link = lv i (key i)
 zero:∀ k,lv 0 k = 0
 next:∀ m k,m < N→k < 32→lv (m+1) k = if key m = k then pos m else lv m k
def Dc.bch (pos key:Nat→Nat) (H:Nat→Dc.H) (k:Nat):Nat→List Dc.Wd
 | 0=>[]
 | m+1=>if key m = k then ⟨k / 16,pos m,H m⟩ :: Dc.bch pos key H k m else Dc.bch pos key H k m
def Dc.wdOf (pos key:Nat→Nat) (H:Nat→Dc.H) (i:Nat):Dc.Wd:=⟨key i / 16,pos i,H i⟩
theorem Dc.chain_lay {b:List UInt8} {N:Nat} {pos key:Nat→Nat} {H:Nat→Dc.H} {lv:Nat→Nat→Nat} (h:Dc.Lay b N pos key H lv) (k:Nat) (hk:k < 32) :
  ∀ m,m≤N→∀ last,(∀ i,i < m→pos i < last)→Dc.chain b (k % 16) (k / 16) (lv m k) last = some (Dc.bch pos key H k m)
 | 0,_,last,_=>by rw [h.zero,Dc.chain_zero];rfl
 | m+1,hm,last,hl=>by
  have ih:=Dc.chain_lay h k hk m (by omega)
  rw [h.next m k (by omega) hk,Dc.bch]
  by_cases e:key m = k
  ·rw [if_pos e,if_pos e]
   have hok:Dc.ok b (k % 16) (pos m) last = true:=by
    unfold Dc.ok
    rw [← e,h.right m (by omega),Bool.true_and,decide_eq_true_eq]
    exact hl m (by omega)
   rw [Dc.chain_ok _ (h.ne m (by omega)) hok,h.here m (by omega),h.link m (by omega),e,ih (pos m) fun i hi=>h.up i m hi (by omega)]
   rfl
  ·rw [if_neg e,if_neg e]
   exact ih last fun i hi=>hl i (by omega)
theorem Dc.flat_add {α β:Type} [DecidableEq α] (f g:α→List β) (a:α) (x:β) (hf:∀ k,f k = if a = k then x :: g k else g k):∀ ks:List α,ks.Nodup→a ∈ ks→(ks.flatMap f).Perm (x :: ks.flatMap g)
 | [],_,h=>by cases h
 | k :: r,hn,h=>by
  obtain ⟨h1,h2⟩:=List.nodup_cons.1 hn
  rw [List.flatMap_cons,List.flatMap_cons,hf]
  by_cases e:a = k
  ·rw [if_pos e]
   have:r.flatMap f = r.flatMap g:=by
    have hx:∀ y ∈ r,f y = g y:=fun y hy=>by rw [hf,if_neg (fun e2=>h1 (by rw [← e,e2];exact hy))]
    clear hf h2 hn h h1
    induction r with
    | nil=>rfl
    | cons z t ih=>rw [List.flatMap_cons,List.flatMap_cons,hx z (by simp),ih fun y hy=>hx y (by simp [hy])]
   rw [this]
   exact List.Perm.refl _
  ·rw [if_neg e]
   have ih:=Dc.flat_add f g a x hf r h2 (by rcases List.mem_cons.1 h with h | h;exact absurd h e;exact h)
   refine (List.Perm.append_left (g k) ih).trans ?_
   exact List.perm_middle
theorem Dc.bch_perm {b:List UInt8} {N:Nat} {pos key:Nat→Nat} {H:Nat→Dc.H} {lv:Nat→Nat→Nat} (h:Dc.Lay b N pos key H lv) :
  ∀ m,m≤N→((List.range' 0 32).flatMap fun k=>Dc.bch pos key H k m).Perm ((List.range m).map (Dc.wdOf pos key H))
 | 0,_=>by
  have:∀ ks:List Nat,(ks.flatMap fun k=>Dc.bch pos key H k 0) = []:=fun ks=>by
   induction ks with
   | nil=>rfl
   | cons k r ih=>rw [List.flatMap_cons,ih];rfl
  rw [this]
  exact List.Perm.refl _
 | m+1,hm=>by
  have ih:=Dc.bch_perm h m (by omega)
  have h1:=Dc.flat_add (fun k=>Dc.bch pos key H k (m+1)) (fun k=>Dc.bch pos key H k m) (key m) (Dc.wdOf pos key H m) (fun k=>by
   show Dc.bch pos key H k (m+1) = _
   rw [Dc.bch]
   by_cases e:key m = k
   ·rw [if_pos e,if_pos e,← e];rfl
   ·rw [if_neg e,if_neg e]) (List.range' 0 32) (List.nodup_range') (by rw [List.mem_range'_1];have:=h.keyLt m (by omega);omega)
  refine h1.trans ?_
  rw [List.range_succ,List.map_append]
  refine (List.Perm.cons _ ih).trans ?_
  exact (List.perm_append_comm (l₁:=[Dc.wdOf pos key H m])).trans (List.Perm.refl _)
theorem Dc.wds_sorted {b:List UInt8} {N:Nat} {pos key:Nat→Nat} {H:Nat→Dc.H} {lv:Nat→Nat→Nat} (h:Dc.Lay b N pos key H lv) (m:Nat) (hm:m≤N):((List.range m).map (Dc.wdOf pos key H)).Pairwise (fun x y=>x.at_ < y.at_):=by
 rw [List.pairwise_map]
 rw [List.pairwise_iff_getElem]
 intro i j hi hj hij
 rw [List.getElem_range,List.getElem_range]
 rw [List.length_range] at hi hj
 exact h.up i j hij (by omega)
theorem Dc.lay_good {b:List UInt8} {N:Nat} {pos key:Nat→Nat} {H:Nat→Dc.H} {lv:Nat→Nat→Nat} (h:Dc.Lay b N pos key H lv) (m:Nat) (hm:m≤N) (h4:m≤4096) (heads:Nat) (hf:∀ k,k < 32→Dc.first b heads k = lv m k) :
  ∃ l,Dc.Good b heads l∧l.Perm ((List.range m).map (Dc.wdOf pos key H)):=by
 have hp:=Dc.bch_perm h m hm
 have hs:=Dc.wds_sorted h m hm
 refine ⟨_,⟨Dc.all_some fun k hk=>?_,?_,?_⟩,hp⟩
 ·rw [hf k hk]
  exact Dc.chain_lay h k hk m hm 4294967295 fun i hi=>h.small i (by omega)
 ·rw [hp.length_eq,List.length_map,List.length_range]
  exact h4
 ·rw [(hp.map Dc.Wd.at_).nodup_iff]
  rw [List.Nodup,List.pairwise_map]
  exact hs.imp fun h=>Nat.ne_of_lt h
theorem Im.kinds_none:F8.kind ([]:List UInt8) = none∧F8.kind As.tAlign = none∧F8.kind As.tWord = none∧F8.kind As.tSpan = none∧F8.kind As.tByte = none∧F8.kind As.tNop = none:=by decide
theorem Im.lens:([]:List UInt8).length≤10∧As.tAlign.length≤10∧As.tWord.length≤10∧As.tSpan.length≤10∧As.tByte.length≤10∧As.tNop.length≤10:=by decide
theorem Im.dec_len1 (n:Nat) (h:n≤1):(Lib.decDigits n).length≤2:=(Im.dec15 n (by omega)).2
theorem Im.own_len (x:Im.W) (h:Im.Fine x):(Im.own x).length≤34:=by
 have:=Im.dec_len1 x.l h.2.2.2
 have:=h.1
 unfold Im.own Im.label
 simp only [List.length_cons,List.length_append]
 omega
theorem Im.hd_len (x:Im.W) (h:Im.Fine x):(Im.hd x).length≤34:=by
 have:=Im.dec_len1 x.l h.2.2.2
 have:=h.1
 unfold Im.hd Im.head
 simp only [List.length_cons,List.length_append]
 omega
theorem Im.lineOk {ls:List (List UInt8)} {wd:List UInt8} {ar:List (List UInt8)} (h1:F8.kind wd = none) (h2:wd.length≤10) (h3:ls = [] ∨ ∃ s,ls = [s]∧s.length≤36∧F8.made s = false) (h4:ar.length≤40) (h5:∀ s ∈ ar,s.length≤40):Im.LineOk ⟨ls,wd,ar⟩:=by
 rcases h3 with rfl | ⟨s,rfl,h6,h7⟩
 ·exact ⟨h1,rfl,by simp,h4,fun s hs=>(by cases hs),h5,h2⟩
 ·exact ⟨h1,by simp [h7],by simp,h4,fun t ht=>by rw [List.mem_singleton.1 ht];omega,h5,h2⟩
theorem Im.mark_made {s:List UInt8} (h:Im.Mark s):F8.made s = false:=by
 obtain ⟨c,t,rfl,hc⟩:=h
 unfold F8.made
 rcases hc with rfl | rfl <;> rfl
theorem Im.mark_one {s:List UInt8} (h:Im.Mark s) (hl:s.length≤36):[s] = [] ∨ ∃ t,[s] = [t]∧t.length≤36∧F8.made t = false:=.inr ⟨s,rfl,hl,Im.mark_made h⟩
def Im.AllOk (B:Im.Bl):Prop:=∀ p ∈ B,Im.LineOk p.1
theorem Im.AllOk.app {A B:Im.Bl} (h1:Im.AllOk A) (h2:Im.AllOk B):Im.AllOk (A ++ B):=fun p hp=>(List.mem_append.1 hp).elim (h1 p) (h2 p)
theorem Im.ends_ok {prev:List UInt8} (h:prev = [] ∨ (Im.Mark prev∧prev.length≤34)):Im.AllOk (Im.ends prev):=fun p hp=>by
 unfold Im.ends at hp
 split at hp
 ·cases hp
 ·rename_i hne
  rw [List.mem_singleton.1 hp]
  rcases h with h | ⟨hm,hl⟩
  ·exact absurd h hne
  ·exact Im.lineOk Im.kinds_none.1 Im.lens.1 (Im.mark_one (Im.mark_end hm) (by rw [List.length_append,List.length_singleton];omega)) (by simp) (fun s hs=>by cases hs)
theorem Im.either_len {s:List UInt8} (h:s.length≤34):(Im.either s).length≤40:=by
 unfold Im.either
 split
 ·decide
 ·omega
theorem Im.dec255 (n:Nat) (h:n≤255):(Lib.decDigits n).length≤4:=by
 have:∀ i:Fin 256,(Lib.decDigits i.val).length≤4:=by decide +kernel
 exact this ⟨n,by omega⟩
theorem Im.layW_ok {pos:Nat} {prev link:List UInt8} {la:Nat} {x:Im.W} (h:Im.Fine x) (hp:prev = [] ∨ (Im.Mark prev∧prev.length≤34)) (hl:link.length≤34):Im.AllOk (Im.layW pos prev link la x):=by
 have ho:=Im.own_len x h
 have hh:=Im.hd_len x h
 unfold Im.layW
 intro p hp'
 rcases List.mem_cons.1 hp' with rfl | hp'
 ·exact Im.lineOk Im.kinds_none.1 Im.lens.1 (.inl rfl) (by simp) (fun s hs=>by cases hs)
 rcases List.mem_append.1 hp' with hp' | hp'
 ·exact Im.ends_ok hp p hp'
 rcases List.mem_append.1 hp' with hp' | hp'
 ·unfold Im.body at hp'
  simp only [List.mem_cons,List.not_mem_nil,or_false] at hp'
  rcases hp' with rfl | rfl | rfl | rfl | rfl | rfl | rfl | rfl
  ·exact Im.lineOk Im.kinds_none.2.1 Im.lens.2.1 (.inl rfl) (by simp) (fun s hs=>by cases hs)
  ·exact Im.lineOk Im.kinds_none.2.2.1 Im.lens.2.2.1 (Im.mark_one (Im.hd_mark x) (by omega)) (by simp) (fun s hs=>by rw [List.mem_singleton.1 hs];exact Im.either_len hl)
  ·exact Im.lineOk Im.kinds_none.2.2.1 Im.lens.2.2.1 (.inl rfl) (by simp) (fun s hs=>by rw [List.mem_singleton.1 hs];omega)
  ·refine Im.lineOk Im.kinds_none.2.2.2.1 Im.lens.2.2.2.1 (.inl rfl) (by simp) (fun s hs=>?_)
   simp only [List.mem_cons,List.not_mem_nil,or_false] at hs
   rcases hs with rfl | rfl
   ·omega
   ·rw [List.length_append,List.length_singleton];omega
  ·refine Im.lineOk Im.kinds_none.2.2.2.2.1 Im.lens.2.2.2.2.1 (.inl rfl) (by rw [List.length_map,Im.ns_len];have:=h.1;omega) (fun s hs=>?_)
   obtain ⟨n,hn,rfl⟩:=List.mem_map.1 hs
   have:=Im.dec255 n (h.ns n hn)
   omega
  ·exact Im.lineOk Im.kinds_none.2.1 Im.lens.2.1 (.inl rfl) (by simp) (fun s hs=>by cases hs)
  ·exact Im.lineOk Im.kinds_none.2.2.1 Im.lens.2.2.1 (.inl rfl) (by simp) (fun s hs=>by rw [List.mem_singleton.1 hs];omega)
  ·exact Im.lineOk Im.kinds_none.1 Im.lens.1 (Im.mark_one (Im.own_mark x) (by omega)) (by simp) (fun s hs=>by cases hs)
 ·rw [(List.mem_replicate.1 hp').2]
  exact Im.lineOk Im.kinds_none.2.2.2.2.2 Im.lens.2.2.2.2.2 (.inl rfl) (by simp) (fun s hs=>by cases hs)
theorem Im.layL_ok:∀ (ws:List Im.W) (pos:Nat) (prev:List UInt8) (last:List (List UInt8)) (la:List Nat),(∀ x ∈ ws,Im.Fine x)→(prev = [] ∨ (Im.Mark prev∧prev.length≤34))→(∀ k,(last.getD k []).length≤34)→Im.AllOk (Im.layL pos prev last la ws)
 | [],pos,prev,last,la,_,hp,hl=>by
  unfold Im.layL
  refine (Im.ends_ok hp).app fun p hp=>?_
  unfold Im.slots at hp
  obtain ⟨k,_,rfl⟩:=List.mem_map.1 hp
  refine Im.lineOk Im.kinds_none.2.2.1 Im.lens.2.2.1 ?_ (by simp) (fun s hs=>by rw [List.mem_singleton.1 hs];exact Im.either_len (hl k))
  split
  ·exact .inr ⟨[104],rfl,by decide,rfl⟩
  ·exact .inl rfl
 | x :: r,pos,prev,last,la,hx,hp,hl=>by
  unfold Im.layL
  have hf:=hx x (by simp)
  refine (Im.layW_ok hf hp (hl _)).app (Im.layL_ok r _ _ _ _ (fun y hy=>hx y (by simp [hy])) (.inr ⟨Im.own_mark x,Im.own_len x hf⟩) fun k=>?_)
  rw [Im.getD_set]
  split
  ·exact Im.hd_len x hf
  ·exact hl k
theorem Im.lay_ok (ws:List Im.W) (hx:∀ x ∈ ws,Im.Fine x):Im.AllOk (Im.lay ws):=by
 unfold Im.lay
 intro p hp
 rcases List.mem_cons.1 hp with rfl | hp
 ·exact Im.lineOk Im.kinds_none.2.2.2.2.2 Im.lens.2.2.2.2.2 (.inl rfl) (by simp) (fun s hs=>by cases hs)
 ·refine Im.layL_ok ws 4 [] _ _ hx (.inl rfl) (fun k=>?_) p hp
  rw [List.getD_eq_getElem?_getD,List.getElem?_replicate]
  split <;> simp
theorem Im.layL_cnt:∀ (ws:List Im.W) (pos:Nat) (prev:List UInt8) (last:List (List UInt8)) (la:List Nat),(∀ x ∈ ws,Im.Fine x)→(Im.layL pos prev last la ws).length≤33+13 * ws.length:=by
 have he:∀ prev:List UInt8,(Im.ends prev).length≤1:=fun prev=>by unfold Im.ends;split <;> simp
 intro ws
 induction ws with
 | nil=>
  intro pos prev last la _
  have:=he prev
  unfold Im.layL Im.slots
  rw [List.length_append,List.length_map,List.length_range,List.length_nil]
  omega
 | cons x r ih=>
  intro pos prev last la hx
  have h1:=ih (pos+Im.wsz x) (Im.own x) (last.set (Im.key x) (Im.hd x)) (la.set (Im.key x) pos) fun y hy=>hx y (by simp [hy])
  have h2:=he prev
  have h3:=(hx x (by simp)).2.2.1
  unfold Im.layL Im.layW Im.body
  simp only [List.length_append,List.length_cons,List.length_replicate,List.length_nil]
  omega
theorem Im.lay_cnt (ws:List Im.W) (hx:∀ x ∈ ws,Im.Fine x):(Im.lay ws).length≤34+13 * ws.length:=by
 have:=Im.layL_cnt ws 4 [] (List.replicate 32 []) (List.replicate 32 0) hx
 unfold Im.lay
 rw [List.length_cons]
 omega
theorem Im.src_lok (ws:List Im.W) (h:∀ x ∈ ws,Im.Ok x):∀ y ∈ Im.src ws,Im.LOk y:=by
 have hd:∀ n,n≤15→(Lib.decDigits n).length≤maxLen:=fun n hn=>Nat.le_trans (Im.dec15 n hn).2 (by decide)
 intro y hy
 unfold Im.src at hy
 rcases List.mem_cons.1 hy with rfl | hy
 ·exact ⟨by decide,fun a ha=>by cases ha⟩
 rcases List.mem_append.1 hy with hy | hy
 ·obtain ⟨x,hx,hy⟩:=List.mem_flatMap.1 hy
  obtain ⟨f1,f2,f3,f4⟩:=(h x hx).fine
  unfold Im.srcW at hy
  rcases List.mem_cons.1 hy with rfl | hy
  ·exact ⟨by simp,fun a ha=>by rw [List.mem_singleton.1 ha];exact hd _ (by omega)⟩
  rcases List.mem_cons.1 hy with rfl | hy
  ·refine ⟨by simp,fun a ha=>?_⟩
   simp only [List.mem_cons,List.not_mem_nil,or_false] at ha
   rcases ha with rfl | rfl
   ·exact Nat.le_trans f1 (by decide)
   ·exact hd _ f2
  ·rw [(List.mem_replicate.1 hy).2];exact ⟨by decide,fun a ha=>by cases ha⟩
 ·rw [List.mem_singleton.1 hy];exact ⟨by decide,fun a ha=>by cases ha⟩
def Im.chO (ws:List Im.W):Im.O:=Im.ofA (As.assemble ((Im.lay ws).map fun p=>p.1) 0)
theorem ichain_build {w:World} (hT:L6.Tab w) (ws:List Im.W) (h:∀ x ∈ ws,Im.Ok x) (hn:ws.length≤20):Calls Tryz.prog 18 #[.string ⟨(L6.text (Im.src ws)).toArray⟩,.int .u32 0] w (Im.BPost w (Im.chO ws)):=by
 obtain ⟨S,hr,ho,hf⟩:=Im.run_src ws fun x hx=>⟨(h x hx).right,(h x hx).fine⟩
 have hfine:∀ x ∈ ws,Im.Fine x:=fun x hx=>(h x hx).fine
 have he:Im.end_ S = S:=by unfold Im.end_;rw [if_pos ho]
 have hall:∀ x ∈ (Im.lay ws).map (fun p=>p.1),Im.LineOk x:=fun x hx=>by
  obtain ⟨p,hp,rfl⟩:=List.mem_map.1 hx
  exact Im.lay_ok ws hfine p hp
 have hcnt:=Im.lay_cnt ws hfine
 have hsl:(L6.text (Im.src ws)).length≤1000000000:=by
  have:=Im.pre_len ws hfine
  rw [Im.src_text,List.length_append]
  simp only [List.length_cons,List.length_nil]
  omega
 have hpar:=Im.src_parse ws h (by omega)
 have hsrc:=Im.src_len ws fun x hx=>(hfine x hx).2.2.1
 have hlok:=Im.src_lok ws h
 have hcl:(Im.fill (Im.end_ S)).length≤1000000000:=by rw [he,hf,List.length_map];omega
 unfold Im.chO
 rw [← hf,← he] at hall ⊢
 generalize L6.text (Im.src ws) = sx at *
 generalize Im.src ws = lx at *
 clear hf he
 refine ibuild_any sx 0 lx (Im.fill (Im.end_ S)) S hT hsl hpar hr (by omega) hlok ?_ ?_ ?_ ?_ (by decide)
 ·exact F8.plain_bare _ fun x hx=>⟨(hall x hx).kind,(hall x hx).made⟩
 ·intro x hx
  have:=hall x hx
  exact ⟨Nat.le_trans this.labels (by decide),Nat.le_trans this.args (by decide),fun s hs=>Nat.le_trans (this.ls s hs) (by decide)⟩
 ·exact hcl
 ·intro x hx
  have:=hall x hx
  exact ⟨Nat.le_trans this.labels (by decide),Nat.le_trans this.args (by decide),fun s hs=>Nat.le_trans (this.ls s hs) (by decide),fun s hs=>Nat.le_trans (this.ars s hs) (by decide)⟩
theorem Im.chO_eq (ws:List Im.W) (h:∀ x ∈ ws,Im.Fine x) (hn:ws.length≤20):Im.chO ws = ⟨[],[],42⟩ ∨ ((As.keys (Im.symL 4 [] ws)).Nodup∧Im.chO ws = ⟨Im.img ws,Im.symL 4 [] ws,0⟩):=by
 have h1:=Im.lay_cnt ws h
 have h2:=Im.szs_le ws h
 rcases Im.lay_assemble ws h (by omega) (by omega) with ⟨n,e⟩ | ⟨hk,e⟩
 ·left
  unfold Im.chO
  rw [e]
  rfl
 ·right
  refine ⟨hk,?_⟩
  unfold Im.chO
  rw [e]
  rfl
def Im.named (s:List UInt8):Bool:=Nm.right s && (!(s.headD 0 == 34) && !(L6.note s))
theorem Im.named_whole {s:List UInt8} (h:Im.named s = true):Nm.right s = true∧L6.whole s = true∧s.length≤31:=by
 unfold Im.named at h
 simp only [Bool.and_eq_true,Bool.not_eq_true',beq_eq_false_iff_ne] at h
 obtain ⟨h1,h2,h3⟩:=h
 have h4:=h1
 unfold Nm.right at h4
 simp only [Bool.and_eq_true,Bool.not_eq_true',decide_eq_true_eq] at h4
 obtain ⟨h5,h6,h7⟩:=h4
 have hc:∀ c ∈ s,33≤c.toNat:=fun c hc=>by
  have:=List.all_eq_true.1 h5 c hc
  unfold Nm.okc at this
  simp only [Bool.and_eq_true,decide_eq_true_eq] at this
  exact this.1
 have hno:∀ c ∈ s,∀ d:UInt8,d.toNat < 33→c ≠ d:=fun c hcs d hd e=>by
  have:=hc c hcs
  rw [e] at this
  omega
 refine ⟨h1,L6.free_whole ?_ ?_ ?_ h2 h3,h7⟩
 ·intro e;subst e;cases h6
 ·intro c hcs
  unfold L6.blank
  have a:=hno c hcs 32 (by decide)
  have b:=hno c hcs 9 (by decide)
  simp [a,b]
 ·intro h10
  exact hno 10 h10 10 (by decide) rfl
theorem Im.raw_ok {r:Im.Raw} (h:Im.named r.name = true):Im.Ok r.w:=by
 obtain ⟨h1,h2,h3⟩:=Im.named_whole h
 exact ⟨h1,h2,Im.raw_fine h3⟩
theorem Im.named_at {rs:List Im.Raw} {j:Nat} (hj:j < rs.length) (h:∀ m (hm:m < rs.length),m < j→Im.named rs[m].name = true) (h2:Im.named rs[j].name = true):∀ m (hm:m < rs.length),m < j+1→Im.named rs[m].name = true:=fun m hm hlt=>by
 by_cases e:m = j
 ·subst e;exact h2
 ·exact h m hm (by omega)
def Im.laV (ws:List Im.W) (m k:Nat):Nat:=(Im.laF 4 Im.z32 (ws.take m)).getD k 0
theorem Im.laV_zero (ws:List Im.W) (k:Nat):Im.laV ws 0 k = 0:=by unfold Im.laV;rw [List.take_zero];exact Im.z32_at k
theorem Im.laV_next (ws:List Im.W) (m k:Nat) (hm:m < ws.length) (hk:k < 32):Im.laV ws (m+1) k = if Im.key ws[m] = k then 4+Im.szs (ws.take m) else Im.laV ws m k:=by
 unfold Im.laV
 rw [List.take_succ_eq_append_getElem hm]
 exact Im.la_snoc _ _ k hk
theorem Im.szs_split {ws:List Im.W} {m:Nat} (hm:m < ws.length):Im.szs (ws.take m)+Im.wsz ws[m]≤Im.szs ws∧Im.szs ws = Im.szs (ws.take m ++ ws[m] :: ws.drop (m+1)):=by
 have h:=Im.take_next hm
 have h2:Im.szs ws = Im.szs (ws.take m ++ ws[m] :: ws.drop (m+1)):=congrArg Im.szs h
 refine ⟨?_,h2⟩
 rw [h2,Im.szs_app,Im.szs]
 omega
theorem Im.symL_cnt:∀ (ws:List Im.W) (pos:Nat) (prev:List UInt8),(Im.symL pos prev ws).length≤2+3 * ws.length
 | [],pos,prev=>by unfold Im.symL Im.symE;split <;> simp
 | x :: r,pos,prev=>by
  have:=Im.symL_cnt r (pos+Im.wsz x) (Im.own x)
  have he:(Im.symE pos prev).length≤1:=by unfold Im.symE;split <;> simp
  rw [Im.symL,List.length_append,List.length_cons,List.length_cons,List.length_cons]
  omega
theorem Im.symL_len (ws:List Im.W) (pos:Nat) (prev:List UInt8) (h:ws.length≤20):(Im.symL pos prev ws).length≤5000000000:=by
 have:=Im.symL_cnt ws pos prev
 omega
theorem Im.sl2 (c0 c1:UInt8) (t:List UInt8):((((⟨(c0 :: c1 :: t).toArray⟩:ByteArray).extract 0 2).toList == [47,47]):Bool) = L6.note (c0 :: c1 :: t):=by
 rw [ext_eq,ByteArray.toList_mk,L6.note_two]
 simp
theorem Dc.str_inj {a b:List UInt8} (h:(⟨a.toArray⟩:ByteArray) = ⟨b.toArray⟩):a = b:=by
 have:=congrArg (fun x:ByteArray=>x.data.toList) h
 simpa using this
theorem Dc.hd_of {L nm:List UInt8} {fl a c z N:Nat} (h:Nm.readV L = .tuple #[hv ⟨nm.toArray⟩ fl a c z,.int .i64 (N:Nat),.int .i64 0]):Dc.hd L = ⟨nm,fl,a,c,z⟩∧Dc.long L = N∧Nm.goodB L = true:=by
 rw [Dc.readV_eq] at h
 obtain ⟨H,hH⟩:∃ q,Dc.hd L = q:=⟨_,rfl⟩
 rw [hH] at h
 obtain ⟨n1,f1,l1,x1,s1⟩:=H
 have he:(Dc.err L:Int) = 0∧(Dc.long L:Int) = (N:Int)∧(⟨n1.toArray⟩:ByteArray) = ⟨nm.toArray⟩∧(f1:Int) = fl∧(l1:Int) = a∧(x1:Int) = c∧(s1:Int) = z:=by
  simp only [Value.tuple.injEq,Array.mk.injEq,List.cons.injEq,Value.agg.injEq,Value.string.injEq,Value.int.injEq,true_and,and_true,Dc.H.v,hv] at h
  obtain ⟨⟨h1,h2,h3,h4,h5⟩,h6,h7⟩:=h
  exact ⟨h7,h6,h1,h2,h3,h4,h5⟩
 obtain ⟨h1,h2,h3,h4,h5,h6,h7⟩:=he
 refine ⟨?_,by omega,?_⟩
 ·rw [hH,Dc.str_inj h3,show f1 = fl by omega,show l1 = a by omega,show x1 = c by omega,show s1 = z by omega]
 ·cases hg:Nm.goodB L
  ·unfold Dc.err at h1
   rw [hg] at h1
   exact absurd h1 (by decide)
  ·rfl
theorem Dc.img_right {b P more:List UInt8} {pos la:Nat} {x:Im.W} (hx:Im.Fine x) (hr:Nm.right x.name = true) (hb:b = P ++ (Im.wB pos la x ++ more)) (hP:P.length = pos) (hm:pos % 4 = 0) (hl:b.length≤130000) (hla:la < 4294967296) :
  Dc.okR b pos (Im.bucket x.name) = true∧Dc.here b pos = ⟨x.name,x.fl,la,pos+Im.hsz x,4 * x.n⟩:=by
 have hlen:b.length = pos+(Im.wsz x+more.length):=by rw [hb,List.length_append,List.length_append,Im.wB_len _ _ _ hx.1,hP]
 have hw:Im.wsz x = Im.hsz x+4 * x.n:=rfl
 have hh:Im.hsz x = Nm.lengthN x.name.length+4:=rfl
 have hd:b.drop pos = Nm.headB x.name x.fl la (pos+Im.hsz x) (4 * x.n) ++ (As.four pos ++ (List.replicate x.n Im.nopB).flatten ++ more):=by
  rw [hb,List.drop_left' hP,Im.wB_head,List.append_assoc]
 have hrv:Nm.readV (b.drop pos) = .tuple #[hv ⟨x.name.toArray⟩ x.fl la (pos+Im.hsz x:Nat) (4 * x.n:Nat),.int .i64 (Nm.lengthN x.name.length:Nat),.int .i64 0]:=by
  rw [hd]
  exact Nm.back1 x.name x.fl la (pos+Im.hsz x) (4 * x.n) _ hr hx.1 hx.2.1 hla (by omega) (by omega)
 obtain ⟨e1,e2,e3⟩:=Dc.hd_of hrv
 have hhl:(Nm.headB x.name x.fl la (pos+Im.hsz x) (4 * x.n)).length = Nm.lengthN x.name.length:=Nm.headB_length hx.1
 have hback:Nm.wat b (pos+Nm.lengthN x.name.length) = pos:=by
  have:b = (P ++ Nm.headB x.name x.fl la (pos+Im.hsz x) (4 * x.n)) ++ (As.four pos ++ ((List.replicate x.n Im.nopB).flatten ++ more)):=by
   rw [hb,Im.wB_head];simp only [List.append_assoc]
  rw [this,show pos+Nm.lengthN x.name.length = (P ++ Nm.headB x.name x.fl la (pos+Im.hsz x) (4 * x.n)).length by rw [List.length_append,hP,hhl]]
  exact Nm.wat_at _ _ _ (by omega)
 refine ⟨?_,?_⟩
 ·rw [Dc.okR_eq b pos _ (by omega) (by omega) _ rfl (Nm.lengthN x.name.length) e2.symm,e3,e1,hback]
  simp only [Bool.true_and,Bool.and_eq_true,decide_eq_true_eq]
  exact ⟨hm,trivial,by omega,by omega,trivial,by omega⟩
 ·unfold Dc.here Dc.win
  rw [Dc.hd_take,e1]
def Dc.x0:Im.W:=⟨[],0,0,0⟩
def Dc.pos (ws:List Im.W) (i:Nat):Nat:=4+Im.szs (ws.take i)
def Dc.key (ws:List Im.W) (i:Nat):Nat:=Im.key (ws.getD i Dc.x0)
def Dc.hOf (ws:List Im.W) (i:Nat):Dc.H:=⟨(ws.getD i Dc.x0).name,(ws.getD i Dc.x0).fl,Im.laV ws i (Dc.key ws i),Dc.pos ws i+Im.hsz (ws.getD i Dc.x0),4 * (ws.getD i Dc.x0).n⟩
def Dc.area (ws:List Im.W) (R:List UInt8):List UInt8:=Im.nopB ++ (Im.bytesA 4 Im.z32 ws ++ R)
theorem Dc.getD_at {ws:List Im.W} {i:Nat} (h:i < ws.length):ws.getD i Dc.x0 = ws[i]:=by simp [List.getD,List.getElem?_eq_getElem h]
theorem Dc.area_len (ws:List Im.W) (R:List UInt8) (h:∀ x ∈ ws,Im.Fine x):(Dc.area ws R).length = 4+Im.szs ws+R.length:=by
 unfold Dc.area
 rw [List.length_append,List.length_append,Im.bytesA_len _ _ _ h]
 show 4+_ = _
 omega
theorem Dc.area_at {ws:List Im.W} {R:List UInt8} {i:Nat} (hi:i < ws.length) (h:∀ x ∈ ws,Im.Fine x):∃ P more,P.length = Dc.pos ws i∧Dc.area ws R = P ++ (Im.wB (Dc.pos ws i) (Im.laV ws i (Im.key ws[i])) ws[i] ++ more):=by
 have hA:∀ y ∈ ws.take i,Im.Fine y:=fun y hy=>h y (List.mem_of_mem_take hy)
 refine ⟨Im.nopB ++ Im.bytesA 4 Im.z32 (ws.take i),Im.bytesA (4+Im.szs (ws.take i)+Im.wsz ws[i]) ((Im.laF 4 Im.z32 (ws.take i)).set (Im.key ws[i]) (4+Im.szs (ws.take i))) (ws.drop (i+1)) ++ R,?_,?_⟩
 ·rw [List.length_append,Im.bytesA_len _ _ _ hA];rfl
 ·unfold Dc.area
  conv=>lhs;rw [Im.take_next hi,Im.bytesA_app,Im.bytesA]
  simp only [List.append_assoc]
  rfl
theorem Dc.pos_up (ws:List Im.W) (i j:Nat) (hij:i < j) (hj:j≤ws.length):Dc.pos ws i < Dc.pos ws j:=by
 have h1:i < ws.length:=by omega
 have h2:ws.take j = ws.take i ++ ((ws.drop i).take (j - i)):=by
  rw [show j = i+(j - i) by omega,List.take_add,show i+(j - i) - i = j - i by omega]
 unfold Dc.pos
 rw [h2,Im.szs_app,show j - i = (j - i - 1)+1 by omega,List.drop_eq_getElem_cons h1,List.take_succ_cons,Im.szs]
 unfold Im.wsz Im.hsz
 omega
theorem Dc.laV_lt (ws:List Im.W) (m k:Nat):Im.laV ws m k < 4+Im.szs (ws.take m):=Im.link_lt (ws.take m) k
theorem Dc.pos_mod (ws:List Im.W) (i:Nat):Dc.pos ws i % 4 = 0:=by
 have:=Im.szs_mod (ws.take i)
 unfold Dc.pos
 omega
theorem Dc.key_mod (x:Im.W) (h:Im.Fine x):Im.key x % 16 = Im.bucket x.name∧Im.key x / 16 = x.l:=by
 have h1:Im.bucket x.name < 16:=by
  unfold Im.bucket
  rw [← Nm.foldN_8]
  exact Nm.foldN_lt _ _
 unfold Im.key
 omega
theorem Dc.pos_le (ws:List Im.W) (i:Nat):Dc.pos ws i≤4+Im.szs ws:=by
 have h:Im.szs ws = Im.szs (ws.take i)+Im.szs (ws.drop i):=by rw [← Im.szs_app,List.take_append_drop]
 unfold Dc.pos
 omega
theorem Dc.area_lay (ws:List Im.W) (R:List UInt8) (h:∀ x ∈ ws,Im.Fine x∧Nm.right x.name = true) (hb:4+Im.szs ws+R.length≤130000):Dc.Lay (Dc.area ws R) ws.length (Dc.pos ws) (Dc.key ws) (Dc.hOf ws) (Im.laV ws):=by
 have hf:∀ x ∈ ws,Im.Fine x:=fun x hx=>(h x hx).1
 have hln:=Dc.area_len ws R hf
 have hw:∀ i (hi:i < ws.length),Dc.okR (Dc.area ws R) (Dc.pos ws i) (Im.bucket ws[i].name) = true∧Dc.here (Dc.area ws R) (Dc.pos ws i) = ⟨ws[i].name,ws[i].fl,Im.laV ws i (Im.key ws[i]),Dc.pos ws i+Im.hsz ws[i],4 * ws[i].n⟩:=fun i hi=>by
  obtain ⟨P,more,hP,he⟩:=Dc.area_at (R:=R) hi hf
  have hl:=Dc.laV_lt ws i (Im.key ws[i])
  have hp:=Dc.pos_le ws i
  have hp2:Dc.pos ws i = 4+Im.szs (ws.take i):=rfl
  exact Dc.img_right (hf _ (List.getElem_mem hi)) (h _ (List.getElem_mem hi)).2 he hP (Dc.pos_mod ws i) (by omega) (by omega)
 refine ⟨fun i hi=>?_,fun i j hij hj=>Dc.pos_up ws i j hij (by omega),fun i hi=>?_,fun i hi=>?_,fun i hi=>?_,fun i hi=>?_,fun i hi=>rfl,fun k=>Im.laV_zero ws k,fun m k hm hk=>?_⟩
 ·unfold Dc.pos;omega
 ·have:=Dc.pos_le ws i;omega
 ·unfold Dc.key;rw [Dc.getD_at hi];exact Im.key_lt _ (hf _ (List.getElem_mem hi))
 ·unfold Dc.key
  rw [Dc.getD_at hi,(Dc.key_mod _ (hf _ (List.getElem_mem hi))).1]
  exact (hw i hi).1
 ·rw [(hw i hi).2]
  unfold Dc.hOf Dc.key
  rw [Dc.getD_at hi]
 ·unfold Dc.key
  rw [Dc.getD_at hm]
  exact Im.laV_next ws m k hm hk
theorem Dc.wat_app (P Q:List UInt8) (k:Nat):Nm.wat (P ++ Q) (P.length+k) = Nm.wat Q k:=by
 have hg:∀ j,(P ++ Q).getD (P.length+j) 0 = Q.getD j 0:=fun j=>by
  rw [List.getD_eq_getElem?_getD,List.getD_eq_getElem?_getD,List.getElem?_append_right (by omega)]
  congr 2
  omega
 unfold Nm.wat
 rw [Nat.add_assoc,Nat.add_assoc,Nat.add_assoc,hg,hg,hg,hg]
theorem Dc.wat_front (P Q:List UInt8) (k:Nat) (h:k+4≤P.length):Nm.wat (P ++ Q) k = Nm.wat P k:=by
 have hg:∀ j,j < P.length→(P ++ Q).getD j 0 = P.getD j 0:=fun j hj=>by
  rw [List.getD_eq_getElem?_getD,List.getD_eq_getElem?_getD,List.getElem?_append_left hj]
 unfold Nm.wat
 rw [hg _ (by omega),hg _ (by omega),hg _ (by omega),hg _ (by omega)]
theorem Dc.area_first (ws:List Im.W) (R:List UInt8) (h:∀ x ∈ ws,Im.Fine x) (hb:4+Im.szs ws+R.length≤130000) (hR:128≤R.length) (k:Nat) (hk:k < 32):Dc.first (Dc.area ws R) (4+Im.szs ws) k = Nm.wat R (4 * k):=by
 have hln:=Dc.area_len ws R h
 unfold Dc.first Dc.wd
 rw [Nat.mod_eq_of_lt (by omega),if_pos (by omega),Option.getD_some]
 have e:Dc.area ws R = (Im.nopB ++ Im.bytesA 4 Im.z32 ws) ++ R:=by unfold Dc.area;rw [List.append_assoc]
 have hl:(Im.nopB ++ Im.bytesA 4 Im.z32 ws).length = 4+Im.szs ws:=by rw [List.length_append,Im.bytesA_len _ _ _ h];rfl
 rw [e,← hl]
 exact Dc.wat_app _ _ _
theorem Dc.img_area (ws:List Im.W) (z:List UInt8):Im.img ws ++ z = Dc.area ws (Im.slotsB (Im.laF 4 Im.z32 ws) ++ z):=by
 unfold Im.img Dc.area
 simp only [List.append_assoc]
theorem Dc.slot_wat (ws:List Im.W) (h:∀ x ∈ ws,Im.Fine x) (hb:4+Im.szs ws≤130000) (z:List UInt8) (k:Nat) (hk:k < 32):Nm.wat (Im.slotsB (Im.laF 4 Im.z32 ws) ++ z) (4 * k) = Im.laV ws ws.length k:=by
 have hs:=Im.slotsB_len (Im.laF 4 Im.z32 ws)
 rw [Dc.wat_front _ _ _ (by omega)]
 have h1:=Im.img_head ws h hb k hk
 have e:Im.img ws = (Im.nopB ++ Im.bytesA 4 Im.z32 ws) ++ Im.slotsB (Im.laF 4 Im.z32 ws):=by unfold Im.img;rw [List.append_assoc]
 have hl:(Im.nopB ++ Im.bytesA 4 Im.z32 ws).length = 4+Im.szs ws:=by rw [List.length_append,Im.bytesA_len _ _ _ h];rfl
 rw [e,← hl,Dc.wat_app] at h1
 rw [h1]
 unfold Im.laV
 rw [List.take_length]
theorem Dc.put_wat (R:List UInt8) (j v k:Nat) (hj:4 * j+4≤R.length) (hv:v < 4294967296):Nm.wat (Mm.put R (4 * j) (Mm.bytesOf v 4)) (4 * k) = if j = k then v else Nm.wat R (4 * k):=by
 have hlb:(Mm.bytesOf v 4).length = 4:=Mm.bytesOf_length v 4
 by_cases e:j = k
 ·subst e
  rw [if_pos rfl]
  have hp:(R.take (4 * j)).length = 4 * j:=by rw [List.length_take];omega
  unfold Mm.put
  have e4:Mm.bytesOf v 4 = As.four v:=by
   simp only [Mm.bytesOf,As.four,Nat.div_div_eq_div_mul]
  rw [e4]
  have:=Nm.wat_at (R.take (4 * j)) (R.drop (4 * j+(As.four v).length)) v hv
  rw [hp] at this
  exact this
 ·rw [if_neg e]
  have hg:∀ i,i < 4→(Mm.put R (4 * j) (Mm.bytesOf v 4)).getD (4 * k+i) 0 = R.getD (4 * k+i) 0:=fun i hi=>Mm.getD_put_far R (4 * j) _ _ (by omega) (by omega)
  unfold Nm.wat
  have g0:=hg 0 (by decide)
  have g1:=hg 1 (by decide)
  have g2:=hg 2 (by decide)
  have g3:=hg 3 (by decide)
  simp only [Nat.add_zero] at g0
  rw [g0,g1,g2,g3]
theorem Dc.put_area (ws:List Im.W) (R l:List UInt8) (h:∀ x ∈ ws,Im.Fine x) (a:Nat) (ha:a+l.length≤R.length):Mm.put (Dc.area ws R) (4+Im.szs ws+a) l = Dc.area ws (Mm.put R a l):=by
 have e:∀ Q,Dc.area ws Q = (Im.nopB ++ Im.bytesA 4 Im.z32 ws) ++ Q:=fun Q=>by unfold Dc.area;rw [List.append_assoc]
 have hl:(Im.nopB ++ Im.bytesA 4 Im.z32 ws).length = 4+Im.szs ws:=by rw [List.length_append,Im.bytesA_len _ _ _ h];rfl
 rw [e,e,← hl]
 generalize Im.nopB ++ Im.bytesA 4 Im.z32 ws = P
 unfold Mm.put
 rw [List.take_append,List.take_of_length_le (by omega),show P.length+a - P.length = a by omega,Nat.add_assoc,List.drop_append,List.drop_of_length_le (by omega),show P.length+(a+l.length) - P.length = a+l.length by omega]
 simp only [List.append_assoc,List.nil_append]
theorem Dc.fits_area (ws:List Im.W) (R:List UInt8) (h:∀ x ∈ ws,Im.Fine x) (hR:128≤R.length):Dc.fits (Dc.area ws R) (4+Im.szs ws):=by
 have:=Dc.area_len ws R h
 have:=Im.szs_mod ws
 exact ⟨by omega,by omega,by omega⟩
def Dc.wds (ws:List Im.W) (m:Nat):List Dc.Wd:=(List.range m).map (Dc.wdOf (Dc.pos ws) (Dc.key ws) (Dc.hOf ws))
theorem Dc.wds_len (ws:List Im.W) (m:Nat):(Dc.wds ws m).length = m:=by unfold Dc.wds;rw [List.length_map,List.length_range]
theorem Dc.img_good (ws:List Im.W) (R:List UInt8) (m:Nat) (h:∀ x ∈ ws,Im.Fine x∧Nm.right x.name = true) (hb:4+Im.szs ws+R.length≤130000) (hR:128≤R.length) (hm:m≤ws.length) (h4:m≤4096) (hs:∀ k,k < 32→Nm.wat R (4 * k) = Im.laV ws m k) :
  ∃ l,Dc.Good (Dc.area ws R) (4+Im.szs ws) l∧l.Perm (Dc.wds ws m)∧(Dc.wds ws m).Pairwise (fun x y=>x.at_ < y.at_):=by
 have hl:=Dc.area_lay ws R h hb
 obtain ⟨l,h1,h2⟩:=Dc.lay_good hl m hm h4 (4+Im.szs ws) fun k hk=>(Dc.area_first ws R (fun x hx=>(h x hx).1) hb hR k hk).trans (hs k hk)
 exact ⟨l,h1,h2,Dc.wds_sorted hl m hm⟩
theorem Dc.area_code (ws:List Im.W) (R:List UInt8) (h:∀ x ∈ ws,Im.Fine x) (i:Nat) (hi:i < ws.length):Dc.code (Dc.area ws R) (Dc.pos ws i+Im.hsz ws[i]) (4 * ws[i].n) = (List.replicate ws[i].n Im.nopB).flatten:=by
 obtain ⟨P,more,hP,he⟩:=Dc.area_at (R:=R) hi h
 have hln:(Dc.area ws R).length = Dc.pos ws i+(Im.wsz ws[i]+more.length):=by rw [he,List.length_append,List.length_append,Im.wB_len _ _ _ (h _ (List.getElem_mem hi)).1,hP]
 have hw:Im.wsz ws[i] = Im.hsz ws[i]+4 * ws[i].n:=rfl
 have hfl:((List.replicate ws[i].n Im.nopB).flatten).length = 4 * ws[i].n:=by
  rw [List.length_flatten,List.map_replicate,List.sum_replicate_nat]
  show _ * 4 = _
  omega
 unfold Dc.code Mm.bytesL
 rw [if_neg (by omega),if_pos (by omega)]
 have hH:(Im.wB (Dc.pos ws i) (Im.laV ws i (Im.key ws[i])) ws[i]) = (Nm.headB ws[i].name ws[i].fl (Im.laV ws i (Im.key ws[i])) (Dc.pos ws i+Im.hsz ws[i]) (4 * ws[i].n) ++ As.four (Dc.pos ws i)) ++ (List.replicate ws[i].n Im.nopB).flatten:=by
  rw [Im.wB_head,List.append_assoc]
 have hhl:(Nm.headB ws[i].name ws[i].fl (Im.laV ws i (Im.key ws[i])) (Dc.pos ws i+Im.hsz ws[i]) (4 * ws[i].n) ++ As.four (Dc.pos ws i)).length = Im.hsz ws[i]:=by
  rw [List.length_append,Nm.headB_length (h _ (List.getElem_mem hi)).1]
  rfl
 unfold Mm.get
 rw [he,hH,show P ++ (((Nm.headB ws[i].name ws[i].fl (Im.laV ws i (Im.key ws[i])) (Dc.pos ws i+Im.hsz ws[i]) (4 * ws[i].n) ++ As.four (Dc.pos ws i)) ++ (List.replicate ws[i].n Im.nopB).flatten) ++ more) = (P ++ (Nm.headB ws[i].name ws[i].fl (Im.laV ws i (Im.key ws[i])) (Dc.pos ws i+Im.hsz ws[i]) (4 * ws[i].n) ++ As.four (Dc.pos ws i))) ++ ((List.replicate ws[i].n Im.nopB).flatten ++ more) by simp only [List.append_assoc],
  List.drop_left' (by rw [List.length_append,hP,hhl])]
 exact List.take_left' (by rw [hfl];omega)
def Dc.slots (ws:List Im.W):List UInt8:=Im.slotsB (Im.laF 4 Im.z32 ws) ++ List.replicate 4 0
theorem Dc.slots_len (ws:List Im.W):(Dc.slots ws).length = 132:=by
 unfold Dc.slots
 rw [List.length_append,Im.slotsB_len,List.length_replicate]
theorem Dc.mem_img (ws:List Im.W):Dc.mem (Im.img ws) ((Im.img ws).length+4) = Dc.area ws (Dc.slots ws):=by
 unfold Dc.mem
 rw [show (Im.img ws).length+4 - (Im.img ws).length = 4 by omega,Dc.img_area]
 rfl
def Dc.cut (ws:List Im.W):List UInt8:=Mm.put (Dc.slots ws) (4 * Dc.key ws (ws.length - 1)) (Mm.bytesOf (Im.laV ws (ws.length - 1) (Dc.key ws (ws.length - 1))) 4)
theorem Dc.key_lt {ws:List Im.W} (h:∀ x ∈ ws,Im.Fine x) {i:Nat} (hi:i < ws.length):Dc.key ws i < 32:=by
 unfold Dc.key
 rw [Dc.getD_at hi]
 have h1:=Dc.key_mod ws[i] (h _ (List.getElem_mem hi))
 have h2:=(h _ (List.getElem_mem hi)).2.2.2
 omega
theorem Dc.laV_small {ws:List Im.W} (hb:Im.szs ws≤100000) (m k:Nat):Im.laV ws m k < 4294967296:=by
 have h1:=Dc.laV_lt ws m k
 have h2:Im.szs (ws.take m)≤Im.szs ws:=by have:=Dc.pos_le ws m;unfold Dc.pos at this;omega
 omega
theorem Dc.cut_len {ws:List Im.W} (h:∀ x ∈ ws,Im.Fine x) (hn:0 < ws.length):(Dc.cut ws).length = 132:=by
 have hk:=Dc.key_lt h (i:=ws.length - 1) (by omega)
 unfold Dc.cut
 rw [Mm.put_length _ _ _ (by rw [Mm.bytesOf_length,Dc.slots_len];omega),Dc.slots_len]
theorem Dc.slots_at {ws:List Im.W} (h:∀ x ∈ ws,Im.Fine x) (hb:4+Im.szs ws≤130000) (k:Nat) (hk:k < 32):Nm.wat (Dc.slots ws) (4 * k) = Im.laV ws ws.length k:=Dc.slot_wat ws h hb _ k hk
theorem Dc.cut_at {ws:List Im.W} (h:∀ x ∈ ws,Im.Fine x) (hb:Im.szs ws≤100000) (hn:0 < ws.length) (k:Nat) (hk:k < 32):Nm.wat (Dc.cut ws) (4 * k) = Im.laV ws (ws.length - 1) k:=by
 have hkk:=Dc.key_lt h (i:=ws.length - 1) (by omega)
 unfold Dc.cut
 rw [Dc.put_wat _ _ _ _ (by rw [Dc.slots_len];omega) (Dc.laV_small hb _ _)]
 by_cases e:Dc.key ws (ws.length - 1) = k
 ·rw [if_pos e,e]
 ·rw [if_neg e,Dc.slots_at h (by omega) k hk]
  have h1:=Im.laV_next ws (ws.length - 1) k (by omega) hk
  rw [show ws.length - 1+1 = ws.length by omega,if_neg (by unfold Dc.key at e;rwa [Dc.getD_at (show ws.length - 1 < ws.length by omega)] at e)] at h1
  exact h1
theorem dread_wds (w:World) (gm gb:Nat) (ws:List Im.W) (R:List UInt8) (m:Nat) (h:∀ x ∈ ws,Im.Fine x∧Nm.right x.name = true) (hb:Im.szs ws≤100000) (hR:R.length = 132) (hm:m≤ws.length) (h4:m≤4096) (hs:∀ k,k < 32→Nm.wat R (4 * k) = Im.laV ws m k) (hM:OwnM w gm gb (Dc.area ws R) []) :
  Calls Tryz.prog 31 #[.pointer (some ⟨gm,0,none⟩),.int .u32 ((4+Im.szs ws:Nat):Int)] w fun e w'=>∃ v,e = .returned (.tuple #[v,.int .i64 0])∧RdD w' v (Dc.wds ws m)∧Off v gb∧Below w.heap.size w w':=by
 refine (dread_any w gm gb (Dc.area ws R) [] (4+Im.szs ws) (by omega) hM).mono ?_
 intro e w' hp
 obtain ⟨l,h1,h2,h3⟩:=Dc.img_good ws R m h (by omega) (by omega) hm h4 hs
 obtain ⟨hb',l',v,h5,h6,rfl,h7,h8⟩:=hp.good (Dc.fits_area ws R (fun x hx=>(h x hx).1) (by omega)) h1
 have e2:l' = Dc.wds ws m:=Dc.sorted_eq (h5.trans h2) h6 h3
 subst e2
 refine ⟨v,rfl,h7,fun k off n c e hn hk=>?_,hb'⟩
 subst e hk
 have:=h8 k rfl
 obtain ⟨A,c',cap,q1,q2,q3,q4,_⟩:=hM.cells
 have:=q3.lt
 omega
theorem dwrite_cut (w:World) (gm gb:Nat) (ws:List Im.W) (h:∀ x ∈ ws,Im.Fine x) (hb:Im.szs ws≤100000) (hn:0 < ws.length) (hM:OwnM w gm gb (Dc.area ws (Dc.slots ws)) []) :
  Calls Tryz.prog 41 #[.pointer (some ⟨gm,0,none⟩),.int .u32 ((4+Im.szs ws+4 * Dc.key ws (ws.length - 1):Nat):Int),.int .i64 4,.int .u32 ((Im.laV ws (ws.length - 1) (Dc.key ws (ws.length - 1)):Nat):Int)] w fun e w'=>e = .returned (.int .i64 0)∧OwnM w' gm gb (Dc.area ws (Dc.cut ws)) []∧But gb w w':=by
 have hk:=Dc.key_lt h (i:=ws.length - 1) (by omega)
 have hl:=Dc.area_len ws (Dc.slots ws) h
 have hs:=Dc.slots_len ws
 have hz:=Im.szs_mod ws
 refine (write_ok w gm gb (Dc.area ws (Dc.slots ws)) [] (4+Im.szs ws+4 * Dc.key ws (ws.length - 1)) 4 (Im.laV ws (ws.length - 1) (Dc.key ws (ws.length - 1))) (by omega) (Dc.laV_small hb _ _) hM (by omega) (by omega) ?_).mono ?_
 ·unfold Mm.ask
  rw [if_neg (by simp),if_neg (by show ¬ _ % 4 ≠ 0;omega),if_neg (by show ¬ _ < _+4;omega),if_neg (by simp [Mm.hits])]
 ·rintro e w' ⟨h1,h2,h3⟩
  rw [Dc.put_area ws _ _ h _ (by rw [Mm.bytesOf_length];omega)] at h2
  exact ⟨h1,h2,h3⟩
theorem Dc.wds_at {ws:List Im.W} {m j:Nat} (hj:j < m):(Dc.wds ws m).getD j Dc.w0 = Dc.wdOf (Dc.pos ws) (Dc.key ws) (Dc.hOf ws) j:=by
 unfold Dc.wds
 rw [List.getD_eq_getElem?_getD,List.getElem?_map,List.getElem?_range hj]
 rfl
theorem Dc.wds_take (ws:List Im.W) (m k:Nat) (h:k≤m):(Dc.wds ws m).take k = Dc.wds ws k:=by
 unfold Dc.wds
 rw [← List.map_take,List.take_range,Nat.min_eq_left h]
theorem Dc.take_flat (l:List Dc.Wd) (k:Nat) (hk:k≤l.length):(l.flatMap Dc.wenc).take (k * 7) = (l.take k).flatMap Dc.wenc:=by
 have h1:l.flatMap Dc.wenc = (l.take k).flatMap Dc.wenc ++ (l.drop k).flatMap Dc.wenc:=by rw [← List.flatMap_append,List.take_append_drop]
 have h2:((l.take k).flatMap Dc.wenc).length = k * 7:=by rw [flat_length _ _ Dc.wenc_len,List.length_take];congr 1;omega
 rw [h1,List.take_left' h2]
theorem Dc.word_facts (rs:List Im.Raw) {ws:List Im.W} (hws:rs.map Im.Raw.w = ws) (hf:∀ x ∈ ws,Im.Fine x) (hb:Im.szs ws≤100000) (R:List UInt8) {j:Nat} (hj:j < rs.length) :
  ((Dc.wds ws ws.length).getD j Dc.w0).h.name = rs[j].name∧((Dc.wds ws ws.length).getD j Dc.w0).list = (rs[j].l % 2).toNat ∧
  Dc.code (Dc.area ws R) ((Dc.wds ws ws.length).getD j Dc.w0).h.xt ((Dc.wds ws ws.length).getD j Dc.w0).h.size = (List.replicate (rs[j].n % 4).toNat Im.nopB).flatten ∧
  ((Dc.wds ws ws.length).getD j Dc.w0).h.xt < 4294967296∧((Dc.wds ws ws.length).getD j Dc.w0).h.size < 4294967296:=by
 have hl:ws.length = rs.length:=by rw [← hws,List.length_map]
 have hj':j < ws.length:=by omega
 have hx:ws[j] = rs[j].w:=by
  subst hws
  rw [List.getElem_map]
 have hfx:=hf _ (List.getElem_mem hj')
 rw [Dc.wds_at hj']
 unfold Dc.wdOf Dc.hOf
 dsimp only
 rw [Dc.getD_at hj']
 have hk:Dc.key ws j / 16 = ws[j].l:=by unfold Dc.key;rw [Dc.getD_at hj'];exact (Dc.key_mod _ hfx).2
 have hp:=Im.szs_split hj'
 have hw:Im.wsz ws[j] = Im.hsz ws[j]+4 * ws[j].n:=rfl
 have hq:Dc.pos ws j = 4+Im.szs (ws.take j):=rfl
 refine ⟨by rw [hx];rfl,by rw [hk,hx];rfl,?_,by omega,by have:=hfx.2.2.1;omega⟩
 rw [Dc.area_code ws R hf j hj',hx]
 rfl
theorem Dc.last_facts (rs:List Im.Raw) {ws:List Im.W} (hws:rs.map Im.Raw.w = ws) (hf:∀ x ∈ ws,Im.Fine x) {j:Nat} (hj:j < rs.length) :
  16 * ((Dc.wds ws ws.length).getD j Dc.w0).list+Im.bucket ((Dc.wds ws ws.length).getD j Dc.w0).h.name = Dc.key ws j∧((Dc.wds ws ws.length).getD j Dc.w0).h.link = Im.laV ws j (Dc.key ws j)∧((Dc.wds ws ws.length).getD j Dc.w0).h.name.length≤31:=by
 have hl:ws.length = rs.length:=by rw [← hws,List.length_map]
 have hj':j < ws.length:=by omega
 have hfx:=hf _ (List.getElem_mem hj')
 rw [Dc.wds_at hj']
 unfold Dc.wdOf Dc.hOf
 dsimp only
 rw [Dc.getD_at hj']
 have h1:=Dc.key_mod ws[j] hfx
 have h2:Dc.key ws j = Im.key ws[j]:=by unfold Dc.key;rw [Dc.getD_at hj']
 refine ⟨?_,rfl,hfx.1⟩
 rw [h2,← h1.1]
 omega
end Go.Proofs.YtpcpaoeajcjoiaaGreatDoor
