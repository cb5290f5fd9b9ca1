/- Texts joined: L6Num, KitF, L6Words, L6Line, L6LineW, L6Cut, L6Lines1, L6Cut1, L6Own. -/
import Derived.Test.YtfafdkbnmfpbmaaDoorJ3
import Derived.RangeFuncNested
import Derived.RangeFuncBound
import Derived.RangeFuncCalls
import Derived.RangeFuncLeaves
import Derived.Shelf.Abstract
import Derived.Shelf.RegionOpen
import Derived.WalkKit
import Derived.OwnWalkIn
import Derived.TacticsInMore
import Derived.LoopNIn
import Derived.LoopIn
import Derived.Deep.RegionHeld3
import Derived.Deep.RegionLaw
import Derived.Sort.CutIn
/- Numbers and registers: plain, and the walks of digits, Number. -/
namespace Go.Proofs.YtfafdkbnmfpbmaaDoor
open Go.RowKit Kit
set_option linter.unusedVariables false
set_option linter.unusedSimpArgs false

def L6.dig (c : UInt8) : Option Nat := if 48 ≤ c.toNat ∧ c.toNat ≤ 57 then some (c.toNat - 48) else if 97 ≤ c.toNat ∧ c.toNat ≤ 102 then some (c.toNat - 87) else none
def L6.hex : List UInt8 := [48, 49, 50, 51, 52, 53, 54, 55, 56, 57, 97, 98, 99, 100, 101, 102]
def L6.digI (c : UInt8) : Int := match L6.dig c with | none => -1 | some d => d
theorem L6.dig_index (c : UInt8) : Lib.indexByte L6.hex c = L6.digI c := by
  have h : ∀ n, n < 256 → Lib.indexByte L6.hex (UInt8.ofNat n) = L6.digI (UInt8.ofNat n) := by decide +kernel
  have := h c.toNat c.toNat_lt
  rwa [show UInt8.ofNat c.toNat = c from by simp] at this
theorem L6.dig_lt {c : UInt8} {d : Nat} (h : L6.dig c = some d) : d < 16 := by
  unfold L6.dig at h
  split at h
  · cases h; omega
  · split at h
    · cases h; omega
    · cases h
def L6.digits (base : Nat) : Nat → List UInt8 → Option Nat
  | n, [] => some n
  | n, c :: t => match L6.dig c with
    | none => none
    | some d => if base ≤ d then none else if 4294967296 < n * base + d then none else L6.digits base (n * base + d) t
theorem L6.digits_le {base : Nat} : ∀ {l : List UInt8} {n m : Nat}, n ≤ 4294967296 → L6.digits base n l = some m → m ≤ 4294967296
  | [], n, m, hn, h => by cases h; exact hn
  | c :: t, n, m, hn, h => by
    unfold L6.digits at h
    cases hd : L6.dig c with
    | none => rw [hd] at h; cases h
    | some d =>
      rw [hd] at h
      simp only at h
      split at h
      · cases h
      · split at h
        · cases h
        · exact L6.digits_le (by omega) h
/-- What digits hands back. -/
def L6.digitsV (base : Nat) (l : List UInt8) : Nat × Bool := match L6.digits base 0 l with | none => (0, false) | some n => (n, !l.isEmpty)
theorem L6.digitsV_le (base : Nat) (l : List UInt8) : (L6.digitsV base l).1 ≤ 4294967296 := by
  unfold L6.digitsV
  cases h : L6.digits base 0 l with
  | none => simp
  | some n => exact L6.digits_le (by omega) h
theorem lret_ib {a b : Int} {x y : Bool} (h1 : a = b) (h2 : x = y) : Ending.returned (.tuple #[.int .i64 a, .bool x]) = .returned (.tuple #[.int .i64 b, .bool y]) := by rw [h1, h2]
theorem L6.ne_empty (l : List UInt8) : (l != []) = !l.isEmpty := by cases l <;> rfl
set_option maxRecDepth 20000 in
theorem ldigits_any (l : List UInt8) (base : Nat) (w : World) (hl : l.length ≤ maxLen) (hb0 : 2 ≤ base) (hb1 : base ≤ 16) :
    Calls Tryd.prog 138 #[.string ⟨l.toArray⟩, .int .i64 (base : Int)] w fun e w' => e = .returned (.tuple #[.int .i64 (L6.digitsV base l).1, .bool (L6.digitsV base l).2]) ∧ w = w' := by
  unfold maxLen at hl
  have cI := Lib.hid (fun (k : Nat) (hk : k < l.length) W => Tryd.strings_IndexByte ⟨L6.hex.toArray⟩ (((⟨l.toArray⟩ : ByteArray)[k]'hk).toNat : Int) W)
  have HG := Lib.hid (fun k (hk : k < l.length) => L6.get_data l k hk)
  have HB := Lib.hid (And.intro hb0 hb1)
  have HL := Lib.hid hl
  clear hb0 hb1 hl
  go_enter Tryd.func138, Tryd.ntmps138
  go_wp2_with fail
  go_loop [6, 7] (fun a i => ∃ n k : Nat, a = .int .i64 (n : Int) ∧ i = .int .i64 (k : Int) ∧ k ≤ l.length ∧ n ≤ 4294967296 ∧ L6.digits base 0 l = L6.digits base n (l.drop k)) (fun _ i => l.length - (intOf i).toNat)
  case atStart => exact ⟨0, 0, rfl, rfl, Nat.zero_le _, by omega, rfl⟩
  case round =>
    obtain ⟨n, k, rfl, rfl, hk, hn, hd⟩ := hrel
    have HD := Lib.hid hd
    have HN := Lib.hid hn
    clear hd hn
    by_cases hlt : k < l.length
    · have hlt' : (k : Int) < l.length := by omega
      have hw1 : IntKind.i64.wrap ((k : Int) + 1) = (k : Int) + 1 := by have := HL.out; rw [IntKind.wrap_i64]; omega
      have hcn : ((((⟨l.toArray⟩ : ByteArray)[k]'hlt).toNat : Int)).toNat.toUInt8 = l.getD k 0 := by
        rw [HG.out k hlt]; simp
      have CI : ∀ W, Calls Tryd.prog 77 #[.string ⟨L6.hex.toArray⟩, .int .u8 (((⟨l.toArray⟩ : ByteArray)[k]'hlt).toNat : Int)] W fun e w' => e = .returned (.int .i64 (L6.digI (l.getD k 0))) ∧ w' = W := fun W => by
        have := cI.out k hlt W
        rw [hcn] at this
        rw [← L6.dig_index]
        exact this
      have HDK := Lib.hid (HD.out.trans (by rw [List.drop_eq_getElem_cons hlt, show l[k] = l.getD k 0 from by simp [List.getD, hlt]]))
      have HLT := Lib.hid hlt
      have CIH := Lib.hid CI
      clear CI hcn
      generalize l.getD k 0 = c at CIH HDK
      cases hdc : L6.dig c with
      | none =>
        have HR := Lib.hid (show L6.digitsV base l = (0, false) from by unfold L6.digitsV; rw [HDK.out]; unfold L6.digits; rw [hdc])
        have CN := Lib.hid (fun W => (CIH.out W).mono (R' := fun e w' => e = .returned (.int .i64 (-1)) ∧ w' = W) (fun e w' hh => by rw [show L6.digI c = -1 from by unfold L6.digI; rw [hdc]] at hh; exact hh))
        clear hdc CIH
        go_wp2_with (go_at_call 77; refine (CN.out _).mono ?_; rintro e w' ⟨rfl, rfl⟩)
        go_ret2
        exact ⟨lret_ib (by rw [HR.out]; rfl) (by rw [HR.out]), rfl⟩
      | some d =>
        have CS := Lib.hid (fun W => (CIH.out W).mono (R' := fun e w' => e = .returned (.int .i64 (d : Int)) ∧ w' = W) (fun e w' hh => by rw [show L6.digI c = d from by unfold L6.digI; rw [hdc]] at hh; exact hh))
        have hd16 := L6.dig_lt hdc
        have hneg : ¬ ((d : Int) < 0) := by omega
        by_cases hbd : base ≤ d
        · have hbd' : (base : Int) ≤ (d : Int) := by omega
          have HR := Lib.hid (show L6.digitsV base l = (0, false) from by unfold L6.digitsV; rw [HDK.out]; unfold L6.digits; rw [hdc]; simp only; rw [if_pos hbd])
          clear hdc CIH hbd hd16
          go_wp2_with (go_at_call 77; refine (CS.out _).mono ?_; rintro e w' ⟨rfl, rfl⟩)
          go_ret2
          exact ⟨lret_ib (by rw [HR.out]; rfl) (by rw [HR.out]), rfl⟩
        · have hbd' : ¬ (base : Int) ≤ (d : Int) := by omega
          have hmul := Nat.mul_le_mul HN.out HB.out.2
          obtain ⟨p, hp⟩ : ∃ p, n * base = p := ⟨_, rfl⟩
          rw [hp] at hmul
          have hwm : IntKind.i64.wrap ((n : Int) * (base : Int)) = (p : Int) := by
            rw [show (n : Int) * (base : Int) = ((n * base : Nat) : Int) from by simp, hp, IntKind.wrap_i64]; omega
          have hws : IntKind.i64.wrap ((p : Int) + (d : Int)) = (p : Int) + (d : Int) := by rw [IntKind.wrap_i64]; omega
          have HDS := Lib.hid (HDK.out.trans (show L6.digits base n (c :: List.drop (k + 1) l) = if 4294967296 < p + d then none else L6.digits base (p + d) (l.drop (k + 1)) from by conv => lhs; unfold L6.digits; rw [hdc]; simp only; rw [if_neg hbd, hp]))
          clear hmul
          by_cases hbig : 4294967296 < p + d
          · have hbig' : (4294967296 : Int) < (p : Int) + (d : Int) := by omega
            have HR := Lib.hid (show L6.digitsV base l = (0, false) from by unfold L6.digitsV; rw [HDS.out, if_pos hbig])
            clear hdc CIH hbd hd16 hbig hp
            go_wp2_with (go_at_call 77; refine (CS.out _).mono ?_; rintro e w' ⟨rfl, rfl⟩)
            go_ret2
            exact ⟨lret_ib (by rw [HR.out]; rfl) (by rw [HR.out]), rfl⟩
          · have hbig' : ¬ (4294967296 : Int) < (p : Int) + (d : Int) := by omega
            have HDN := Lib.hid (show L6.digits base 0 l = L6.digits base (p + d) (l.drop (k + 1)) from by rw [HDS.out, if_neg hbig])
            have HBG := Lib.hid (show p + d ≤ 4294967296 from by omega)
            clear hdc CIH hbd hd16 hbig hp
            go_wp2_with (go_at_call 77; refine (CS.out _).mono ?_; rintro e w' ⟨rfl, rfl⟩)
            go_round
            case rel => exact ⟨p + d, k + 1, by simp, by simp, HLT.out, HBG.out, HDN.out⟩
            case measure => simp [intOf]; omega
    · have hle : (l.length : Int) ≤ (k : Int) := by omega
      have HR := Lib.hid (show L6.digitsV base l = (n, !l.isEmpty) from by unfold L6.digitsV; rw [HD.out, List.drop_of_length_le (by omega)]; rfl)
      go_wp2_with fail
      go_ret2
      refine ⟨lret_ib (by rw [HR.out]) ?_, rfl⟩
      rw [HR.out]
end Go.Proofs.YtfafdkbnmfpbmaaDoor

/- A range over a function, at the wide fence: the statement and one round, with the loop's record in hand (for iterators that write memory of their own between two rounds). -/
namespace Go.Proofs.YtfafdkbnmfpbmaaDoor.Kit
open Go.RowKit Go.Shelf
set_option linter.unusedVariables false
set_option linter.unusedSimpArgs false

theorem roomW (k : Nat) : Fence.wide.room k := fun d h => by cases h
theorem roundAny {m m' : Nat} {P : Program} {l : Nat} {f : FuncId} {tmps : Array Value} {assign body : Code} {w : World} {R : Ending → World → Prop}
    (h : RoundIn Fence.wide m P l f tmps assign body w R) : RoundIn Fence.wide m' P l f tmps assign body w R := ⟨h.1, fun c cs _ => h.2 c cs (roomW _)⟩
theorem yieldAny {m m' : Nat} {P : Program} {l : Nat} {args : Array Value} {W : World} {R : Ending → World → Prop} (h : YieldAt Fence.wide m P l args W R) : YieldAt Fence.wide m' P l args W R := by
  obtain ⟨fn, tmps, assign, body, hy, hR⟩ := h
  exact ⟨fn, tmps, assign, body, hy, roundAny hR⟩
/-- Alike but for the blocks from A up to B. -/
structure Mid (A B : Nat) (w w' : World) : Prop where
  os : w'.os = w.os
  tape : w'.tape = w.tape
  output : w'.output = w.output
  size : w'.heap.size = w.heap.size
  block : ∀ k, k < A ∨ B ≤ k → w'.heap[k]? = w.heap[k]?
theorem Mid.refl (A B : Nat) (w : World) : Mid A B w w := ⟨rfl, rfl, rfl, rfl, fun _ _ => rfl⟩
theorem Mid.trans {A B : Nat} {a b c : World} (h : Mid A B a b) (k : Mid A B b c) : Mid A B a c :=
  ⟨k.os.trans h.os, k.tape.trans h.tape, k.output.trans h.output, k.size.trans h.size, fun i hi => (k.block i hi).trans (h.block i hi)⟩
theorem Mid.drew {A B : Nat} {a w : World} (h : Mid A B a w) : Mid A B a w.drew := ⟨h.os, h.tape, h.output, h.size, h.block⟩
theorem Mid.setCell {A B : Nat} {a w : World} (h : Mid A B a w) (g i : Nat) (u : Value) (h1 : A ≤ g) (h2 : g < B) : Mid A B a (w.setCell ⟨g, i, none⟩ u) :=
  h.trans ⟨rfl, rfl, rfl, by simp [World.setCell], fun k hk => Below.heap_setCell w _ u k (by show k ≠ g; omega)⟩
theorem Mid.putObj {A B : Nat} {a w : World} (h : Mid A B a w) (g : Nat) (o : Obj) (h1 : A ≤ g) (h2 : g < B) : Mid A B a (w.putObj g o) :=
  h.trans ⟨rfl, rfl, rfl, World.putObj_size, fun k hk => World.putObj_heap_other (by omega)⟩
theorem Bk.put {w : World} {g l : Nat} {t : TypeId} {cs : Array Value} (h : Bk w g t cs) (o : Obj) (hne : g ≠ l) : Bk (w.putObj l o) g t cs := (World.putObj_heap_other hne).trans h

/-- The loop's record. -/
def rec_ (fn : FuncId) (tmps : Array Value) (ps : Array Tmp) (assign body : Code) (D : Nat) (st : LoopState) (pe : Option Code) : Loop :=
  { state := st, pending := pe, fn, tmps, params := ps, assign, body, defers := D }
/-- How a round's body may be left, the record busy. -/
def RPost (l : Nat) (rec : LoopState → Option Code → Loop) (R : Ending → World → Prop) : Exit → Act → World → Prop
  | .normal, _, w => w.heap[l]? = some (.loop (rec .busy none)) ∧ R (.returned (.bool true)) (w.putObj l (.loop (rec .ready none)))
  | .ret, _, w => w.heap[l]? = some (.loop (rec .busy none)) ∧ R (.returned (.bool false)) (w.putObj l (.loop (rec .done (some .ret))))
  | .exit id, _, w => w.heap[l]? = some (.loop (rec .busy none)) ∧ R (.returned (.bool false)) (w.putObj l (.loop (rec .done (some (.exit id)))))
  | .goto t, _, w => w.heap[l]? = some (.loop (rec .busy none)) ∧ R (.returned (.bool false)) (w.putObj l (.loop (rec .done (some (.goto t)))))
  | .panic _, _, _ => False
  | .outgrown, _, _ => False

/-- One round. -/
theorem yield_at {n : Nat} {P : Program} {fn : FuncId} {tmps : Array Value} {ps : Array Tmp} {assign body : Code} {D l : Nat} {W : World} {vals : Array Value} {R : Ending → World → Prop}
    (hl : W.heap[l]? = some (.loop (rec_ fn tmps ps assign body D .ready none))) (hs : vals.size = ps.size)
    (a₁ : Act) (hassign : ∀ K : Act → World → Prop, K a₁ W → assign.wpIn (Fence.wide.inRound l) n P (Exit.then K (fun _ _ _ => False)) { tmps := (ps.zip vals).foldl (fun t (p, v) => t.setIfInBounds p v) tmps, defers := [] } W)
    (hbody : body.wpIn (Fence.wide.inRound l) n P (RPost l (rec_ fn tmps ps assign body D) R) a₁ (W.putObj l (.loop (rec_ fn tmps ps assign body D .busy none)))) :
    YieldAt Fence.wide n P l vals W R := by
  have hy := run_yield (P := P) (args := vals) hl hs
  refine ⟨fn, _, assign, body, hy, roundIn_of_wpIn trivial ?_⟩
  refine hassign _ ⟨_, run_beginRound hl rfl, wpIn_mono hbody ?_⟩
  rintro e a₂ w₂ hp
  cases e with
  | normal => exact ⟨_, _, run_endRound none hp.1, hp.2⟩
  | ret => exact ⟨_, _, run_endRound (some .ret) hp.1, hp.2⟩
  | exit id => exact ⟨_, _, run_endRound (some (.exit id)) hp.1, hp.2⟩
  | goto t => exact ⟨_, _, run_endRound (some (.goto t)) hp.1, hp.2⟩
  | panic ch => exact hp.elim
  | outgrown => exact hp.elim

/-- The statement. -/
theorem range_at {n : Nat} {P : Program} {g : Operand} {ps : Array Tmp} {assign body : Code} {Q : Exit → Act → World → Prop} {a : Act} {w : World} {gf : Nat} {lb : Array Value}
    (hg : a.eval g = .func (.func gf) #[] lb) (eg : ∀ args w, (callFunc gf args).run P w = .ok (.enter gf args) w) (Rn : FuncId → World → Prop) (Rs : FuncId → Code → World → Prop)
    (hcall : ∀ fn, CallsIn Fence.wide (n - 1) P gf (#[.func (.yield (w.heap.size + 1)) #[] #[]] ++ lb)
        ((w.alloc (.deferred (some []))).alloc (.loop (rec_ fn a.tmps ps assign body w.heap.size .ready none))) fun e W => (∃ v, e = .returned v) ∧
      ((W.heap[w.heap.size + 1]? = some (.loop (rec_ fn a.tmps ps assign body w.heap.size .ready none)) ∧ Rn fn W) ∨
        ∃ c, W.heap[w.heap.size + 1]? = some (.loop (rec_ fn a.tmps ps assign body w.heap.size .done (some c))) ∧ Rs fn c W))
    (hdone : ∀ fn W, Rn fn W → Q .normal { a with defers := { target := .collected w.heap.size, args := #[] } :: a.defers } (W.putObj (w.heap.size + 1) (.loop (rec_ fn a.tmps ps assign body w.heap.size .exhausted none))))
    (hstop : ∀ fn c W, Rs fn c W → c.wpIn Fence.wide n P Q { a with defers := { target := .collected w.heap.size, args := #[] } :: a.defers } (W.putObj (w.heap.size + 1) (.loop (rec_ fn a.tmps ps assign body w.heap.size .exhausted (some c))))) :
    (Code.rangeFunc g ps assign body).wpIn Fence.wide n P Q a w := by
  refine wpIn_rangeFunc (F := Fence.wide) ?_
  intro fn hfn
  have hro : Fence.wide.round = none := rfl
  rw [hro]
  obtain ⟨W1, hW1⟩ : ∃ W1, (w.alloc (.deferred (some []))).alloc (.loop (rec_ fn a.tmps ps assign body w.heap.size .ready none)) = W1 := ⟨_, rfl⟩
  have hc := hcall fn
  rw [hW1] at hc
  refine ⟨w.heap.size + 1, [{ target := .collected w.heap.size, args := #[] }], W1, { target := .fn (.func gf) lb, args := #[.func (.yield (w.heap.size + 1)) #[] #[]] }, W1, gf, #[.func (.yield (w.heap.size + 1)) #[] #[]] ++ lb, W1, ?_⟩
  refine ⟨?_, ?_, ?_, ?_, ?_, ?_⟩
  · rw [← hW1]; exact run_enterLoop_outer _ _ _ _ _
  · simp only [resolve, hg]
    simp [go_sem]
  · intro _ _; exact trivial
  · simp [invoke, go_sem, eg]
  · intro h; exact absurd h (by simp [Fence.wide])
  refine CallsIn.mono hc ?_
  · rintro e W ⟨⟨v, rfl⟩, (⟨hl, hR⟩ | ⟨c, hl, hR⟩)⟩
    · exact ⟨none, _, run_endLoop hl (by simp [rec_]), hdone fn W hR⟩
    · exact ⟨some c, _, run_endLoop hl (by simp [rec_]), hstop fn c W hR⟩
end Go.Proofs.YtfafdkbnmfpbmaaDoor.Kit

/- The walk of words. -/
namespace Go.Proofs.YtfafdkbnmfpbmaaDoor
open Go.RowKit Kit
set_option linter.unusedVariables false
set_option linter.unusedSimpArgs false

theorem lsrt : RowTy Tryd.prog 39 9 1 16 :=
  ⟨Tryd.underlying39, by
    have h : (Tryd.prog.info? 9).map (fun i => (i.zero, i.size, i.bytes)) = some (some (.string ByteArray.empty), 1, 16) := by kernel_rfl
    obtain ⟨i, h1, h2, h3, h4⟩ := info_parts h
    exact ⟨i, _, h1, h2, h3, h4, rfl⟩⟩
/-- Texts as cells. -/
def L6.sv (l : List (List UInt8)) : List Value := l.map fun x => Value.string ⟨x.toArray⟩
theorem L6.sv_length (l : List (List UInt8)) : (L6.sv l).length = l.length := by simp [L6.sv]
theorem L6.sv_append (a b : List (List UInt8)) : L6.sv (a ++ b) = L6.sv a ++ L6.sv b := by simp [L6.sv]
theorem L6.sv_one (l : List (List UInt8)) : ∀ u ∈ L6.sv l, u.oneCell' = true := by
  intro u hu; simp only [L6.sv, List.mem_map] at hu; obtain ⟨_, _, rfl⟩ := hu; rfl
/-- v is a slice of texts of the call's own. -/
def OwnS (base : Nat) (w : World) (v : Value) (l : List (List UInt8)) : Prop := w.ownsRow base 9 1 v l.length (L6.sv l)
theorem OwnS.nil (base : Nat) (w : World) : OwnS base w (.slice none 0 0) [] := World.ownsRow_nil w base 9 1
theorem OwnS.kept {base : Nat} {w w' : World} {v : Value} {l : List (List UInt8)} (h : OwnS base w v l) (hb : Below w.heap.size w w') : OwnS base w' v l := own_kept h hb
theorem OwnS.rebase {base base' : Nat} {w : World} {v : Value} {l : List (List UInt8)} (h : OwnS base w v l) (hb : base' ≤ base) : OwnS base' w v l := own_rebase h hb
theorem OwnS.form {base : Nat} {w : World} {v : Value} {l : List (List UInt8)} (h : OwnS base w v l) : ∃ A c, v = .slice A l.length c := (Rd.of_own h).form
theorem src_one (w : World) (x : List UInt8) : Src Tryd.prog 1 39 (.slice (some ⟨w.heap.size, 0, none⟩) 1 1) 1 [.string ⟨x.toArray⟩] (w.alloc (.cells #[.string ⟨x.toArray⟩] 9)) :=
  Rd.src lsrt (Rd.built (Bk.fresh w _ #[.string ⟨x.toArray⟩]) rfl) (by intro u hu; simp at hu; subst hu; rfl)
theorem L6.note_prefix (l : List UInt8) : Lib.hasPrefix l [47, 47] = L6.note l := by
  unfold L6.note
  match l with
  | [] => rfl
  | [a] => by_cases h : a = 47 <;> simp [Lib.hasPrefix, List.isPrefixOf, h]
  | a :: b :: t =>
    by_cases h : a = 47
    · by_cases h' : b = 47
      · subst h h'; simp [Lib.hasPrefix, List.isPrefixOf]
      · subst h; simp [Lib.hasPrefix, List.isPrefixOf, h', Ne.symm h']
    · simp [Lib.hasPrefix, List.isPrefixOf, h, Ne.symm h]

theorem isDrewN6 {B : Nat} {a w : World} (h : Below B a w) (n : Nat) : Below B a (w.drewN n) := ⟨h.os, h.tape, h.output, h.size, h.block⟩
theorem lret_vb {v v' : Value} {x y : Bool} (h1 : v = v') (h2 : x = y) : Ending.returned (.tuple #[v, .bool x]) = .returned (.tuple #[v', .bool y]) := by rw [h1, h2]
/-- What words hands back. -/
def WordsPost (base : Nat) (w : World) (r : Option (List (List UInt8))) (e : Ending) (w' : World) : Prop :=
  match r with
  | none => e = .returned (.tuple #[.slice none 0 0, .bool false]) ∧ Below base w w'
  | some ws => ∃ v, e = .returned (.tuple #[v, .bool true]) ∧ OwnS base w' v ws ∧ Below base w w'
theorem L6.map_app (acc : List (List UInt8)) (x : List UInt8) (r : Option (List (List UInt8))) : (r.map (x :: ·)).map (acc ++ ·) = r.map ((acc ++ [x]) ++ ·) := by
  cases r <;> simp
set_option maxHeartbeats 1000000 in
theorem lwords_any (l : List UInt8) (w : World) (hl : l.length ≤ 1000000000) : Calls Tryd.prog 54 #[.string ⟨l.toArray⟩] w (WordsPost w.heap.size w (L6.wordsOf l)) := by
  have HLL := Lib.hid (show l.length ≤ 1000000000 from hl)
  go_enter Tryd.func54, Tryd.ntmps54
  go_wp2_with fail
  go_step3
  go_wp2_with fail
  go_step3
  go_wp2_with fail
  go_loopw [0, 4] (fun s v wr => ∃ (m : List UInt8) (acc : List (List UInt8)), s = .string ⟨m.toArray⟩ ∧ OwnS w.heap.size wr v acc ∧ L6.wordsOf l = (L6.wordsOf m).map (acc ++ ·) ∧ m.length + acc.length ≤ l.length ∧ Below w.heap.size w wr) (fun s _ _ => match s with | .string t => t.size | _ => 0)
  case atStart => exact ⟨l, [], rfl, OwnS.nil _ _, by cases L6.wordsOf l <;> simp, by simp, Below.refl _ _⟩
  case round =>
    obtain ⟨m, acc, rfl, hown, hw, hml, hbr⟩ := hrel
    have HOW := Lib.hid hown
    have HW := Lib.hid hw
    have HML := Lib.hid hml
    have HBR := Lib.hid hbr
    clear hw hml hbr
    have HB := Lib.hid (lbare_any m wr (by have := HML.out; have := HLL.out; unfold maxLen; omega))
    have hbl := L6.bare_len m
    cases hb : L6.bare m with
    | nil =>
      rw [hb] at HB
      have HR := Lib.hid (show L6.wordsOf l = some acc by rw [HW.out, L6.wordsOf_bare m hb]; simp)
      obtain ⟨A, c, rfl⟩ := hown.form
      clear hb hown
      go_wp2_with (go_at_call 92; refine HB.out.mono ?_; rintro e w' ⟨rfl, rfl⟩)
      rw [Exit.noGoto_ret]
      go_ret2
      rw [HR.out]
      exact ⟨_, rfl, HOW.out, HBR.out⟩
    | cons c t =>
      rw [hb] at HB hbl
      have HN := Lib.hid (fun W => lnext_any c t W (by have := HML.out; have := HLL.out; unfold maxLen; omega))
      have HWN := Lib.hid (L6.wordsOf_next m c t hb)
      have HLT := Lib.hid (L6.next_len c t (L6.bare_head hb))
      have HBL := Lib.hid hbl
      clear hb hbl
      generalize L6.next (c :: t) = N at *
      obtain ⟨x, r, ok⟩ := N
      dsimp only at HN HWN HLT
      have HP := Lib.hid (fun W => Tryd.strings_HasPrefix ⟨x.toArray⟩ ⟨#[47, 47]⟩ W)
      rw [show Lib.hasPrefix (⟨x.toArray⟩ : ByteArray).data.toList (⟨#[47, 47]⟩ : ByteArray).data.toList = L6.note x from L6.note_prefix x] at HP
      obtain ⟨A, cap, hv⟩ := hown.form
      cases hn : L6.note x
      · rw [hn] at HP HWN
        cases ok
        · have HR := Lib.hid (show L6.wordsOf l = none by rw [HW.out, HWN.out]; simp)
          subst hv
          clear hown hn
          go_wp2_with (first | (go_at_call 92; refine HB.out.mono ?_; rintro e w' ⟨rfl, rfl⟩) | (go_at_call 93; refine (HN.out _).mono ?_; rintro e w' ⟨rfl, k, rfl⟩) | (go_at_call 35; refine (HP.out _).mono ?_; rintro e w' ⟨rfl, rfl⟩))
          rw [Exit.noGoto_ret]
          go_ret2
          rw [HR.out]
          exact ⟨rfl, isDrewN6 HBR.out _⟩
        · have HWL := Lib.hid (show L6.wordsOf l = (L6.wordsOf r).map ((acc ++ [x]) ++ ·) by
            rw [HW.out, HWN.out, if_neg (by decide), if_pos rfl]; exact L6.map_app acc x _)
          subst hv
          have HOWK := Lib.hid (show ∀ k : Nat, ((wr.drewN k).alloc (.cells #[.string ⟨x.toArray⟩] 9)).ownsRow w.heap.size 9 1 (.slice A acc.length cap) acc.length (L6.sv acc) from fun k =>
            (HOW.out.kept (isDrewN6 (Below.refl _ _) k)).kept ((Below.refl _ _).alloc (Nat.le_refl _) _))
          have HSK := Lib.hid (show ∀ k : Nat, Src Tryd.prog 1 39 (.slice (some ⟨wr.heap.size, 0, none⟩) 1 1) 1 [.string ⟨x.toArray⟩] ((wr.drewN k).alloc (.cells #[.string ⟨x.toArray⟩] 9)) from fun k => src_one (wr.drewN k) x)
          have HL1 := Lib.hid (show (acc.length + 1) * 16 ≤ 140737488355328 by have := HML.out; have := HLL.out; omega)
          have HL2 := Lib.hid (show acc.length + 1 ≤ maxLen by have := HML.out; have := HLL.out; unfold maxLen; omega)
          have HZ := Lib.hid (show ∀ k : Nat, w.heap.size ≤ ((wr.drewN k).alloc (.cells #[.string ⟨x.toArray⟩] 9)).heap.size from fun k => by
            have h1 := HBR.out.size
            have h2 : ((wr.drewN k).alloc (.cells #[.string ⟨x.toArray⟩] 9)).heap.size = wr.heap.size + 1 := by rw [World.size_alloc]; rfl
            omega)
          have HBK := Lib.hid (show ∀ k : Nat, Below w.heap.size w ((wr.drewN k).alloc (.cells #[.string ⟨x.toArray⟩] 9)) from fun k => (isDrewN6 HBR.out k).alloc HBR.out.size _)
          clear hown hn
          go_wp2_with (first | (go_at_call 92; refine HB.out.mono ?_; rintro e w' ⟨rfl, rfl⟩) | (go_at_call 93; refine (HN.out _).mono ?_; rintro e w' ⟨rfl, k, rfl⟩) | (go_at_call 35; refine (HP.out _).mono ?_; rintro e w' ⟨rfl, rfl⟩) | (at_builtin; refine wpList_appendRB rfl _ _ _ _ rfl lsrt (by decide) w.heap.size _ rfl acc.length (L6.sv acc) (HOWK.out _) _ rfl 1 [.string ⟨x.toArray⟩] (HSK.out _) HL1.out HL2.out (HZ.out _) ?_; intro v3 w3 ho3 hb3 _ _; have HO3 := Lib.hid ho3; have HB3 := Lib.hid ((HBK.out _).trans hb3); obtain ⟨A3, c3, rfl⟩ := (Rd.of_own ho3).form; clear ho3 hb3))
          go_roundw
          case rel =>
            refine ⟨r, acc ++ [x], rfl, ?_, HWL.out, ?_, HB3.out⟩
            · unfold OwnS
              rw [L6.sv_append, List.length_append]
              exact HO3.out
            · have := HML.out; have := HLT.out; have := HBL.out; simp at *; omega
          case measure => have := HLT.out; have := HBL.out; simp [ByteArray.size] at *; omega
      · rw [hn] at HP HWN
        have HR := Lib.hid (show L6.wordsOf l = some acc by rw [HW.out, HWN.out]; simp)
        subst hv
        clear hown hn
        go_wp2_with (first | (go_at_call 92; refine HB.out.mono ?_; rintro e w' ⟨rfl, rfl⟩) | (go_at_call 93; refine (HN.out _).mono ?_; rintro e w' ⟨rfl, k, rfl⟩) | (go_at_call 35; refine (HP.out _).mono ?_; rintro e w' ⟨rfl, rfl⟩))
        rw [Exit.noGoto_ret]
        go_ret2
        rw [HR.out]
        exact ⟨_, rfl, HOW.out.kept (isDrewN6 (Below.refl _ _) _), isDrewN6 HBR.out _⟩
end Go.Proofs.YtfafdkbnmfpbmaaDoor

/- The walks of label, line. -/
namespace Go.Proofs.YtfafdkbnmfpbmaaDoor
open Go.RowKit Kit
set_option linter.unusedVariables false
set_option linter.unusedSimpArgs false

/-- v reads as these texts. -/
def RdS (w : World) (v : Value) (l : List (List UInt8)) : Prop := Rd w 1 v l.length (L6.sv l)
theorem OwnS.rd {base : Nat} {w : World} {v : Value} {l : List (List UInt8)} (h : OwnS base w v l) : RdS w v l := Rd.of_own h
theorem RdS.kept {w w' : World} {v : Value} {l : List (List UInt8)} (h : RdS w v l) (hb : Below w.heap.size w w') : RdS w' v l := Rd.kept h hb
theorem RdS.cons {w : World} {v : Value} {x : List UInt8} {l : List (List UInt8)} (h : RdS w v (x :: l)) :
    ∃ g off c, v = .slice (some ⟨g, off, none⟩) (l.length + 1) c ∧ l.length + 1 ≤ c ∧ c ≤ maxLen ∧ g < w.heap.size ∧ w.cell? ⟨g, off, none⟩ = some (.string ⟨x.toArray⟩) ∧
      ∃ v2, (∀ (k : IntKind) W, (Instr.slice 39 v (some (.int k 1)) none none).run Tryd.prog W = .ok v2 W) ∧ RdS w v2 l ∧ ∀ g' off' n' c', v2 = .slice (some ⟨g', off', none⟩) n' c' → g' = g := by
  obtain ⟨hl, A, c, rfl, h2, h3, h4⟩ := h
  simp only [List.length_cons] at h2 h4
  obtain ⟨g, off, rfl, hg, hc⟩ := h4 (by omega)
  refine ⟨g, off, c, rfl, h2, h3, hg, by simpa [L6.sv] using hc 0 _ rfl, sliced (some ⟨g, off, none⟩) 1 (l.length + 1) c 1, ?_, ?_, ?_⟩
  · intro k W
    have helem : Tryd.prog.elem 39 = 9 := by simp [Program.elem, Tryd.underlying39]
    have ht : Tryd.prog.underlying 39 = some (.slice (Tryd.prog.elem 39)) := by rw [helem]; exact Tryd.underlying39
    obtain ⟨i, z, hi, hz, hs, hb, hzs⟩ := lsrt.info
    have hsz : (sizeOf (Tryd.prog.elem 39)).run Tryd.prog W = .ok 1 W := by rw [helem]; simp [sizeOf, typeInfo, hi, hs]
    rw [run_slice_l (w := W) 39 _ _ _ ht k 1 (by omega) (by simp <;> omega), hsz]
    simp
  · refine ⟨by simp [L6.sv], ?_⟩
    unfold sliced
    by_cases hcl : c = 1
    · exact ⟨some ⟨g, off, none⟩, c - 1, by rw [if_pos hcl]; simp, by omega, by omega, fun hn => by omega⟩
    · refine ⟨some ⟨g, off + 1, none⟩, c - 1, by rw [if_neg hcl]; simp [addr_add], by omega, by omega, fun hn => ⟨g, off + 1, rfl, hg, fun j u hu => ?_⟩⟩
      have := hc (j + 1) u (by simpa [L6.sv] using hu)
      rw [show off + 1 + j = off + (j + 1) by omega]
      exact this
  · intro g' off' n' c' e
    unfold sliced at e
    by_cases hcl : c = 1
    · rw [if_pos hcl] at e
      injection e with e
      injection e with e
      injection e with e
      exact e.symm
    · rw [if_neg hcl] at e
      simp only [Option.map_some, addr_add] at e
      injection e with e
      injection e with e
      injection e with e
      exact e.symm
theorem RdS.nil_form {w : World} {v : Value} (h : RdS w v []) : ∃ A c, v = .slice A 0 c := Rd.form h

theorem L6.suffix_one (l : List UInt8) (c : UInt8) : Lib.hasSuffix l [c] = (!l.isEmpty && l.getLastD 0 == c) := by
  unfold Lib.hasSuffix List.isSuffixOf
  rcases List.eq_nil_or_concat l with rfl | ⟨t, d, rfl⟩
  · rfl
  · have he : (t ++ [d]).isEmpty = false := by cases t <;> rfl
    have hl : (t ++ [d]).getLastD 0 = d := by simp
    rw [List.concat_eq_append, he, hl, List.reverse_append]
    by_cases h : c = d
    · subst h; simp [List.isPrefixOf]
    · have h1 : (c == d) = false := by simpa using h
      have h2 : (d == c) = false := by simpa using Ne.symm h
      simp [List.isPrefixOf, h1, h2]
theorem llabel_any (l : List UInt8) (w : World) (hm : l.length ≤ maxLen) : Calls Tryd.prog 94 #[.string ⟨l.toArray⟩] w fun e w' => e = .returned (.bool (L6.label l)) ∧ w = w' := by
  have cS := Lib.hid (fun W => Tryd.strings_HasSuffix ⟨l.toArray⟩ ⟨#[58]⟩ W (by have := hm; unfold maxLen at this; simpa [ByteArray.size] using this))
  rw [show Lib.hasSuffix (⟨l.toArray⟩ : ByteArray).data.toList (⟨#[58]⟩ : ByteArray).data.toList = (!l.isEmpty && l.getLastD 0 == 58) from L6.suffix_one l 58] at cS
  unfold maxLen at hm
  by_cases h1 : 1 < l.length
  · have g1 : (1 : Int) < l.length := by omega
    have hne : l.isEmpty = false := by cases l with | nil => simp at h1 | cons a b => rfl
    rw [hne] at cS
    have HL := Lib.hid (show L6.label l = ((l.getLastD 0 == 58) && (l.headD 0 != 34)) by unfold L6.label; simp [h1])
    cases hb : l.getLastD 0 == 58
    · rw [hb] at cS HL
      clear hb hne h1
      go_enter Tryd.func94, Tryd.ntmps94
      go_wp2_with (go_at_call 52; refine (cS.out _).mono ?_; rintro e w' ⟨rfl, rfl⟩)
      go_ret
      exact ⟨lret_bool (by rw [HL.out]; rfl), rfl⟩
    · rw [hb] at cS HL
      have h0 : 0 < l.length := by omega
      have hg := L6.get_data l 0 h0
      have HH := Lib.hid (show (l.headD 0 != 34) = (((((⟨l.toArray⟩ : ByteArray)[0]'h0).toNat : Int)) != 34) by
        rw [hg, Bool.eq_iff_iff, bne_iff_ne, bne_iff_ne]
        cases l with
        | nil => simp at h0
        | cons a b =>
          simp only [List.headD_cons, List.getD_cons_zero]
          refine not_congr ⟨fun h => by rw [h]; rfl, fun h => UInt8.toNat_inj.1 ?_⟩
          have : a.toNat = 34 := by omega
          exact this)
      clear hb hne h1 hg
      go_enter Tryd.func94, Tryd.ntmps94
      go_wp2_with (go_at_call 52; refine (cS.out _).mono ?_; rintro e w' ⟨rfl, rfl⟩)
      go_ret
      exact ⟨lret_bool (by rw [HL.out, HH.out]; rfl), rfl⟩
  · have g1 : ¬ (1 : Int) < l.length := by omega
    have HL := Lib.hid (show L6.label l = false by unfold L6.label; simp [h1])
    clear h1
    go_enter Tryd.func94, Tryd.ntmps94
    go_wp2_with (go_at_call 52; refine (cS.out _).mono ?_; rintro e w' ⟨rfl, rfl⟩)
    go_ret
    exact ⟨lret_bool HL.out.symm, rfl⟩
end Go.Proofs.YtfafdkbnmfpbmaaDoor

/- The walk of line. -/
namespace Go.Proofs.YtfafdkbnmfpbmaaDoor
open Go.RowKit Kit
set_option linter.unusedVariables false
set_option linter.unusedSimpArgs false

theorem lclone_any (v : Value) (l : List (List UInt8)) (w : World) (h : RdS w v l) (hl : l.length ≤ 1000000000) :
    Calls Tryd.prog 61 #[v] w fun e w' => ∃ v', e = .returned v' ∧ OwnS w.heap.size w' v' l ∧ Below w.heap.size w w' := by
  cases l with
  | nil =>
    obtain ⟨A, c, rfl⟩ := h.nil_form
    cases A with
    | none =>
      refine (Tryd.slices_Clone_string_nil 0 c w).mono ?_
      rintro e w' ⟨rfl, rfl⟩
      exact ⟨_, rfl, OwnS.nil _ _, Below.refl _ _⟩
    | some a =>
      refine (Tryd.slices_Clone_string_zero a c w).mono ?_
      rintro e w' ⟨v', rfl, h1, _, h3⟩
      exact ⟨_, rfl, h1, h3⟩
  | cons x t =>
    have hpos : 0 < (x :: t).length := by simp
    generalize x :: t = ys at *
    obtain ⟨hl1, A, c, rfl, h2, h3, h4⟩ := h
    obtain ⟨g, off, rfl, hg, hc⟩ := h4 hpos
    refine (Tryd.slices_Clone_string g off ys.length c (ys.map fun y => ⟨y.toArray⟩) w (by simp) (by omega) (fun j hj => ?_)).mono ?_
    · simp only [List.length_map] at hj
      refine (hc j _ (by simp only [L6.sv]; rw [List.getElem?_map, List.getElem?_eq_getElem hj]; rfl)).trans ?_
      simp only [List.getD, List.getElem?_map, List.getElem?_eq_getElem hj, Option.map_some, Option.getD_some]
    · rintro e w' ⟨v', rfl, h1, _, h5⟩
      refine ⟨_, rfl, ?_, h5⟩
      unfold OwnS
      have e1 : ((ys.map fun y => (⟨y.toArray⟩ : ByteArray)).take ys.length).map Value.string = L6.sv ys := by
        rw [List.take_of_length_le (by simp)]; simp [L6.sv]
      rw [e1] at h1
      exact h1
theorem L6.trim_label (x : List UInt8) (h : L6.label x = true) : Lib.trimSuffix x [58] = x.dropLast := by
  unfold L6.label at h
  simp only [Bool.and_eq_true, decide_eq_true_eq] at h
  unfold Lib.trimSuffix
  have hne : x.isEmpty = false := by cases x with | nil => simp at h | cons a b => rfl
  rw [L6.suffix_one, hne, h.2.1, List.dropLast_eq_take]
  simp
/-- x's block while its labels are gathered. -/
theorem own_ne {w : World} {base : Nat} {t : TypeId} {size : Nat} {v : Value} {n : Nat} {xs : List Value} (h : w.ownsRow base t size v n xs) {g : Nat} {t' : TypeId} {cs : Array Value} (hb : Bk w g t' cs) (ht : t' ≠ t) : v.ownBlock ≠ some g := by
  rcases h.2 with ⟨rfl, _⟩ | ⟨g', cap, cur, rfl, _, hh, _⟩
  · simp [Value.ownBlock]
  · intro e
    simp [Value.ownBlock] at e
    subst e
    exact ht (hb.uniq (t' := t) hh).1
structure LineAt (w : World) (base gx : Nat) (vl : Value) (labs : List (List UInt8)) : Prop where
  bk : Bk w gx 42 #[vl, .string ⟨#[]⟩, .slice none 0 0]
  own : OwnS base w vl labs
  ge : base ≤ gx
theorem OwnS.but {base g : Nat} {w w' : World} {v : Value} {l : List (List UInt8)} (h : OwnS base w v l) (hb : But g w w') (hne : v.ownBlock ≠ some g) : OwnS base w' v l := by
  obtain ⟨h1, h2⟩ := h
  refine ⟨h1, ?_⟩
  rcases h2 with h2 | ⟨g', cap, cur, rfl, hb', hh, rest⟩
  · exact .inl h2
  · exact .inr ⟨g', cap, cur, rfl, hb', (hb.block (Array.getElem?_eq_some_iff.1 hh).1 (fun e => hne (by simp [Value.ownBlock, e]))).trans hh, rest⟩
theorem slice_length {v2 : Value} {w : World} {t : List (List UInt8)} (h : RdS w v2 t) : (match v2 with | .slice _ n _ => n | _ => 0) = t.length := by
  obtain ⟨A, c, rfl⟩ := h.form
  rfl
theorem L6.line_round {ws : List (List UInt8)} {w wr W1 w3 : World} {labs t : List (List UInt8)} {x : List UInt8} {vl v2 v3 : Value} {g off c1 : Nat}
    (HLA : LineAt wr w.heap.size (w.heap.size + 1) vl labs) (HB : Below w.heap.size w wr) (h1 : Below wr.heap.size wr W1)
    (HLB : L6.labels ws = labs ++ L6.labels (x :: t)) (HRE : L6.rest ws = L6.rest (x :: t)) (HIN : ∀ y ∈ x :: t, y ∈ ws) (HLEN : labs.length + (x :: t).length ≤ ws.length)
    (hb : L6.label x = true) (HRB : Bk wr w.heap.size 42 #[.slice none 0 0, .string ⟨#[]⟩, .slice none 0 0]) (hgw : g < w.heap.size)
    (HV2 : ∀ g' off' n' c', v2 = .slice (some ⟨g', off', none⟩) n' c' → g' = g) (HR2 : RdS wr v2 t)
    (ho3 : w3.ownsRow w.heap.size 9 1 v3 (labs.length + 1) (L6.sv labs ++ [.string ⟨x.dropLast.toArray⟩])) (hb3 : Below w.heap.size W1 w3) (hg3 : W1.grownBy w3 vl.ownBlock)
    (hk3 : Bk w3 (w.heap.size + 1) 42 #[vl, .string ⟨#[]⟩, .slice none 0 0]) :
    (∃ (labs' rest' : List (List UInt8)) (vl' : Value), RdS (w3.setCell ⟨w.heap.size + 1, 0, none⟩ v3) v2 rest' ∧ LineAt (w3.setCell ⟨w.heap.size + 1, 0, none⟩ v3) w.heap.size (w.heap.size + 1) vl' labs' ∧ L6.labels ws = labs' ++ L6.labels rest' ∧ L6.rest ws = L6.rest rest' ∧ (∀ x ∈ rest', x ∈ ws) ∧ labs'.length + rest'.length ≤ ws.length ∧ Bk (w3.setCell ⟨w.heap.size + 1, 0, none⟩ v3) w.heap.size 42 #[.slice none 0 0, .string ⟨#[]⟩, .slice none 0 0] ∧ Below w.heap.size w (w3.setCell ⟨w.heap.size + 1, 0, none⟩ v3) ∧ ∀ g off n c, v2 = .slice (some ⟨g, off, none⟩) n c → 0 < n → g < w.heap.size) ∧
      (match v2 with | .slice _ n _ => n | _ => 0) < (match (Value.slice (some ⟨g, off, none⟩) (t.length + 1) c1) with | .slice _ n _ => n | _ => 0) := by
  have hs0 := HB.size
  have hbut : But (w.heap.size + 1) w3 (w3.setCell ⟨w.heap.size + 1, 0, none⟩ v3) := But.setCell _ _ _ _
  have hw3 : Below w.heap.size wr w3 := (h1.mono hs0).trans hb3
  have hfin : Below w.heap.size wr (w3.setCell ⟨w.heap.size + 1, 0, none⟩ v3) := hw3.setCell (by simp) _
  have hown3 : OwnS w.heap.size w3 v3 (labs ++ [x.dropLast]) := by
    unfold OwnS
    simpa [L6.sv] using ho3
  have hR1 : Bk W1 w.heap.size 42 #[.slice none 0 0, .string ⟨#[]⟩, .slice none 0 0] := HRB.kept h1
  have hR3 : Bk w3 w.heap.size 42 #[.slice none 0 0, .string ⟨#[]⟩, .slice none 0 0] :=
    (hg3.block _ hR1.lt (fun e => own_ne (HLA.own.kept h1) hR1 (by decide) e.symm)).trans hR1
  have hlb : L6.labels ws = (labs ++ [x.dropLast]) ++ L6.labels t := by rw [HLB]; simp [L6.labels, hb]
  have hre : L6.rest ws = L6.rest t := by rw [HRE]; simp [L6.rest, hb]
  refine ⟨⟨labs ++ [x.dropLast], t, v3, ?_, ⟨?_, ?_, by omega⟩, hlb, hre, fun y hy => HIN y (by simp [hy]), ?_, ?_, HB.trans hfin, fun g' off' n c e _ => by rw [HV2 g' off' n c e]; exact hgw⟩, ?_⟩
  · exact Rd.below HR2 hfin (fun k off' c e _ => by rw [HV2 k off' _ c e]; exact hgw)
  · have := hk3.set 0 v3
    simpa using this
  · exact hown3.but hbut (own_ne hown3 hk3 (by decide))
  · simp only [List.length_append, List.length_cons, List.length_nil] at HLEN ⊢; omega
  · exact hbut.bk hR3 (by omega)
  · obtain ⟨A2, c2, rfl⟩ := HR2.form; exact Nat.lt_succ_self _
structure Fin2 (s : Nat) (vl va : Value) (labs args : List (List UInt8)) (w w1 : World) : Prop where
  one : OwnS s w1 vl labs
  two : OwnS s w1 va args
  low : ∃ cs, Bk w1 s 42 cs
  high : ∃ cs, Bk w1 (s + 1) 42 cs
  below : Below s w w1
theorem Fin2.set {s : Nat} {vl va : Value} {labs args : List (List UInt8)} {w w1 : World} (h : Fin2 s vl va labs args w w1) (g i : Nat) (hg : g = s ∨ g = s + 1) (u : Value) : Fin2 s vl va labs args w (w1.setCell ⟨g, i, none⟩ u) := by
  obtain ⟨h1, h2, ⟨c1, h3⟩, ⟨c2, h4⟩, h5⟩ := h
  have hb : But g w1 (w1.setCell ⟨g, i, none⟩ u) := But.setCell _ _ _ _
  rcases hg with rfl | rfl
  · exact ⟨h1.but hb (own_ne h1 h3 (by decide)), h2.but hb (own_ne h2 h3 (by decide)), ⟨_, h3.set i u⟩, ⟨_, hb.bk h4 (by omega)⟩, h5.setCell (Nat.le_refl _) u⟩
  · exact ⟨h1.but hb (own_ne h1 h4 (by decide)), h2.but hb (own_ne h2 h4 (by decide)), ⟨_, hb.bk h3 (by omega)⟩, ⟨_, h4.set i u⟩, h5.setCell (by simp) u⟩
set_option maxRecDepth 20000 in
set_option maxHeartbeats 2000000 in
theorem lline_any (v : Value) (ws : List (List UInt8)) (w : World) (h : RdS w v ws) (hl : ws.length ≤ 1000000000) (hs : ∀ x ∈ ws, x.length ≤ 1000000000) :
    Calls Tryd.prog 55 #[v] w fun e w' => ∃ vl va, e = .returned (.agg #[vl, .string ⟨(L6.line ws).word.toArray⟩, va]) ∧ OwnS w.heap.size w' vl (L6.line ws).labels ∧ OwnS w.heap.size w' va (L6.line ws).args ∧ Below w.heap.size w w' := by
  have HH := Lib.hid h
  have HLL := Lib.hid (show ws.length ≤ 1000000000 from hl)
  have HS := Lib.hid hs
  have HLT := Lib.hid (show ∀ g off n c, v = .slice (some ⟨g, off, none⟩) n c → 0 < n → g < w.heap.size from fun g off n c e hn => by
    obtain ⟨_, A', c', e', _, _, h4⟩ := HH.out
    rw [e] at e'
    injection e' with e1 e2 e3
    obtain ⟨g', off', e4, hg', _⟩ := h4 (by omega)
    rw [e4] at e1
    injection e1 with e1
    injection e1 with e1
    omega)
  obtain ⟨A, c, rfl⟩ := h.form
  clear h hs
  go_enter Tryd.func55, Tryd.ntmps55
  go_wp2_with fail
  have HB0 := Lib.hid (show Below w.heap.size w ((w.alloc (.cells #[.slice none 0 0, .string ⟨#[]⟩, .slice none 0 0] 42)).alloc (.cells #[.slice none 0 0, .string ⟨#[]⟩, .slice none 0 0] 42)) from ((Below.refl _ _).alloc (Nat.le_refl _) _).alloc (by simp) _)
  have HK0 := Lib.hid (show Bk ((w.alloc (.cells #[.slice none 0 0, .string ⟨#[]⟩, .slice none 0 0] 42)).alloc (.cells #[.slice none 0 0, .string ⟨#[]⟩, .slice none 0 0] 42)) (w.heap.size + 1) 42 #[.slice none 0 0, .string ⟨#[]⟩, .slice none 0 0] from by
    have := Bk.fresh (w.alloc (.cells #[.slice none 0 0, .string ⟨#[]⟩, .slice none 0 0] 42)) 42 #[.slice none 0 0, .string ⟨#[]⟩, .slice none 0 0]
    rwa [World.size_alloc] at this)
  have HR0 := Lib.hid (show Bk ((w.alloc (.cells #[.slice none 0 0, .string ⟨#[]⟩, .slice none 0 0] 42)).alloc (.cells #[.slice none 0 0, .string ⟨#[]⟩, .slice none 0 0] 42)) w.heap.size 42 #[.slice none 0 0, .string ⟨#[]⟩, .slice none 0 0] from
    (Bk.fresh w _ _).kept ((Below.refl _ _).alloc (Nat.le_refl _) _))
  go_loopw [0] (fun s wr => ∃ (labs rest : List (List UInt8)) (vl : Value), RdS wr s rest ∧ LineAt wr w.heap.size (w.heap.size + 1) vl labs ∧ L6.labels ws = labs ++ L6.labels rest ∧ L6.rest ws = L6.rest rest ∧ (∀ x ∈ rest, x ∈ ws) ∧ labs.length + rest.length ≤ ws.length ∧ Bk wr w.heap.size 42 #[.slice none 0 0, .string ⟨#[]⟩, .slice none 0 0] ∧ Below w.heap.size w wr ∧ ∀ g off n c, s = .slice (some ⟨g, off, none⟩) n c → 0 < n → g < w.heap.size) (fun s _ => match s with | .slice _ n _ => n | _ => 0)
  case atStart => exact ⟨[], ws, .slice none 0 0, HH.out.kept HB0.out, ⟨HK0.out, OwnS.nil _ _, by omega⟩, rfl, rfl, fun x hx => hx, by simp, HR0.out, HB0.out, HLT.out⟩
  case round =>
    obtain ⟨labs, rest, vl, hrd, hla, hlb, hre, hin, hlen, hrb, hbr, hgl⟩ := hrel
    have HGL := Lib.hid hgl
    clear hgl
    have HRD := Lib.hid hrd
    have HLA := Lib.hid hla
    have HLB := Lib.hid hlb
    have HRE := Lib.hid hre
    have HIN := Lib.hid hin
    have HLEN := Lib.hid hlen
    have HRB := Lib.hid hrb
    have HBR := Lib.hid hbr
    clear hla hlb hre hin hlen hrb hbr
    cases rest with
    | nil =>
      obtain ⟨A1, c1, rfl⟩ := hrd.nil_form
      clear hrd
      obtain ⟨AV, cV, rfl⟩ := HLA.out.own.form
      have k0 : wr.cell? ⟨w.heap.size + 1, 0, none⟩ = some (.slice AV labs.length cV) := HLA.out.bk.cell 0
      have k1 : wr.cell? ⟨w.heap.size + 1, 1, none⟩ = some (.string ⟨#[]⟩) := HLA.out.bk.cell 1
      have k2 : wr.cell? ⟨w.heap.size + 1, 2, none⟩ = some (.slice none 0 0) := HLA.out.bk.cell 2
      have z0 : wr.cell? ⟨w.heap.size, 0, none⟩ = some (.slice none 0 0) := HRB.out.cell 0
      have z1 : wr.cell? ⟨w.heap.size, 1, none⟩ = some (.string ⟨#[]⟩) := HRB.out.cell 1
      have z2 : wr.cell? ⟨w.heap.size, 2, none⟩ = some (.slice none 0 0) := HRB.out.cell 2
      have y0 := HRB.out.free 0
      have y1 := HRB.out.free 1
      have y2 := HRB.out.free 2
      go_wp2_with fail
      refine bodyPost_ret (v := .agg #[.slice AV labs.length cV, .string ⟨#[]⟩, .slice none 0 0]) (by simp [results, Tryd.results55, go_sem, z0, z1, z2]) rfl ?_
      have e1 : L6.line ws = ⟨labs, [], []⟩ := by unfold L6.line; rw [HLB.out, HRE.out]; simp [L6.labels, L6.rest]
      rw [e1]
      have hF : Fin2 w.heap.size (.slice AV labs.length cV) (.slice none 0 0) labs [] w wr := ⟨HLA.out.own, OwnS.nil _ _, ⟨_, HRB.out⟩, ⟨_, HLA.out.bk⟩, HBR.out⟩
      have hF := ((hF.set w.heap.size 0 (.inl rfl) (.slice AV labs.length cV)).set w.heap.size 1 (.inl rfl) (.string ⟨#[]⟩)).set w.heap.size 2 (.inl rfl) (.slice none 0 0)
      exact ⟨_, _, rfl, hF.one, hF.two, hF.below⟩
    | cons x t =>
      obtain ⟨g, off, c1, rfl, hc1, hc2, hg, hcell, v2, hsl, hr2, hv2⟩ := hrd.cons
      have hgw : g < w.heap.size := HGL.out g off _ c1 rfl (by omega)
      have HV2 := Lib.hid hv2
      clear hv2
      have HR2 := Lib.hid hr2
      clear hrd hr2
      unfold maxLen at hc2
      have hx := HS.out x (HIN.out x (by simp))
      have CL := Lib.hid (fun W => llabel_any x W (by unfold maxLen; omega))
      cases hb : L6.label x
      · rw [hb] at CL
        have HX := Lib.hid hb
        clear hb
        have hcap := hc2
        obtain ⟨AV, cV, rfl⟩ := HLA.out.own.form
        have CC := Lib.hid (fun W (hW : Below wr.heap.size wr W) => lclone_any v2 t W (HR2.out.kept hW) (by have h1 := HLEN.out; have h2 := HLL.out; simp only [List.length_cons] at h1; omega))
        have KB := Lib.hid (show ∀ W, Below wr.heap.size wr W → Bk W (w.heap.size + 1) 42 #[.slice AV labs.length cV, .string ⟨#[]⟩, .slice none 0 0] ∧ Bk W w.heap.size 42 #[.slice none 0 0, .string ⟨#[]⟩, .slice none 0 0] from fun W hW => ⟨HLA.out.bk.kept hW, HRB.out.kept hW⟩)
        have e1 : L6.line ws = ⟨labs, x, t⟩ := by unfold L6.line; rw [HLB.out, HRE.out]; simp [L6.labels, L6.rest, HX.out]
        have E1 := Lib.hid e1
        clear e1
        have hne : w.heap.size + 1 ≠ g := by omega
        go_wp2_with (go_at_call 94; refine (CL.out _).mono ?_; rintro e w' ⟨rfl, rfl⟩)
        go_region_held3 (fun W' => W'.cell? ⟨g, off, none⟩ = some (.string ⟨x.toArray⟩)) (go_keep)
          ((go_at_call 61; refine (CC.out _ (Below.refl _ _).drew).mono ?_; rintro e w2 ⟨va, rfl, ho2, hb2⟩; have q2 := (hb2.cell (p := ⟨g, off, none⟩) hg).trans hcell; obtain ⟨hx1, hx0⟩ := KB.out w2 ((Below.refl _ _).drew.trans hb2); have k0 := hx1.cell 0; have k1 := hx1.cell 1; have k2 := hx1.cell 2; have f1 := hx1.free 1; have f2 := hx1.free 2; have z0 := hx0.cell 0; have z1 := hx0.cell 1; have z2 := hx0.cell 2; have y0 := hx0.free 0; have y1 := hx0.free 1; have y2 := hx0.free 2; obtain ⟨AA, cA, rfl⟩ := ho2.form))
        go_wp2_with fail
        refine bodyPost_ret (v := .agg #[.slice AV labs.length cV, .string ⟨x.toArray⟩, .slice AA t.length cA]) (by simp [results, Tryd.results55, go_sem, z0, z1, z2]) rfl ?_
        have hb3 := (Below.refl wr.heap.size wr).drew.trans hb2
        have hF : Fin2 w.heap.size (.slice AV labs.length cV) (.slice AA t.length cA) labs t w w2 := ⟨HLA.out.own.kept hb3, own_rebase ho2 HBR.out.size, ⟨_, hx0⟩, ⟨_, hx1⟩, HBR.out.trans (hb3.mono HBR.out.size)⟩
        have hF := ((((hF.set (w.heap.size + 1) 1 (.inr rfl) (.string ⟨x.toArray⟩)).set (w.heap.size + 1) 2 (.inr rfl) (.slice AA t.length cA)).set w.heap.size 0 (.inl rfl) (.slice AV labs.length cV)).set w.heap.size 1 (.inl rfl) (.string ⟨x.toArray⟩)).set w.heap.size 2 (.inl rfl) (.slice AA t.length cA)
        rw [E1.out]
        exact ⟨_, _, rfl, hF.one, hF.two, hF.below⟩
      · rw [hb] at CL
        have HX := Lib.hid hb
        have CT := Lib.hid (fun W => Tryd.strings_TrimSuffix ⟨x.toArray⟩ ⟨#[58]⟩ W (by simp [ByteArray.size]; omega))
        rw [show Lib.trimSuffix (⟨x.toArray⟩ : ByteArray).data.toList (⟨#[58]⟩ : ByteArray).data.toList = x.dropLast from L6.trim_label x hb] at CT
        clear hb
        have k0 : wr.cell? ⟨w.heap.size + 1, 0, none⟩ = some vl := HLA.out.bk.cell 0
        have f0 := HLA.out.bk.free 0
        have HO1 := Lib.hid (show (wr.drew.alloc (.cells #[.string ⟨x.dropLast.toArray⟩] 9)).ownsRow w.heap.size 9 1 vl labs.length (L6.sv labs) from
          (HLA.out.own.kept (Below.refl _ _).drew).kept ((Below.refl _ _).alloc (Nat.le_refl _) _))
        have HS1 := Lib.hid (show Src Tryd.prog 1 39 (.slice (some ⟨wr.heap.size, 0, none⟩) 1 1) 1 [.string ⟨x.dropLast.toArray⟩] (wr.drew.alloc (.cells #[.string ⟨x.dropLast.toArray⟩] 9)) from src_one wr.drew x.dropLast)
        have HL1 := Lib.hid (show (labs.length + 1) * 16 ≤ 140737488355328 by have := HLEN.out; have := HLL.out; simp at *; omega)
        have HL2 := Lib.hid (show labs.length + 1 ≤ maxLen by have := HLEN.out; have := HLL.out; unfold maxLen; simp at *; omega)
        have HZ1 := Lib.hid (show w.heap.size ≤ (wr.drew.alloc (.cells #[.string ⟨x.dropLast.toArray⟩] 9)).heap.size from by have := HBR.out.size; simp; omega)
        have KEEP := Lib.hid (show ∀ w3, (wr.drew.alloc (.cells #[.string ⟨x.dropLast.toArray⟩] 9)).grownBy w3 vl.ownBlock → Bk w3 (w.heap.size + 1) 42 #[vl, .string ⟨#[]⟩, .slice none 0 0] from fun w3 hg3 => by
          have hb : Bk (wr.drew.alloc (.cells #[.string ⟨x.dropLast.toArray⟩] 9)) (w.heap.size + 1) 42 #[vl, .string ⟨#[]⟩, .slice none 0 0] := (HLA.out.bk.kept (Below.refl _ _).drew).kept ((Below.refl _ _).alloc (Nat.le_refl _) _)
          exact (hg3.block _ hb.lt (fun e => own_ne HO1.out hb (by decide) e.symm)).trans hb)
        have KEEP2 := Lib.hid (show ∀ w3, Below w.heap.size (wr.drew.alloc (.cells #[.string ⟨x.dropLast.toArray⟩] 9)) w3 → w3.cell? ⟨g, off, none⟩ = some (.string ⟨x.toArray⟩) from fun w3 hb3 =>
          (hb3.cell (p := ⟨g, off, none⟩) hgw).trans ((((Below.refl wr.heap.size wr).drew.alloc (Nat.le_refl _) _).cell (p := ⟨g, off, none⟩) hg).trans hcell))
        go_wp2_with (go_at_call 94; refine (CL.out _).mono ?_; rintro e w' ⟨rfl, rfl⟩)
        have ka : (wr.alloc (.cells #[.string ⟨x.dropLast.toArray⟩] 9)).cell? ⟨w.heap.size + 1, 0, none⟩ = some vl := (HLA.out.bk.kept ((Below.refl _ _).alloc (Nat.le_refl _) _)).cell 0
        go_region_law (first
            | (refine step_appendR (by rfl) _ _ _ _ (by rfl) lsrt (by decide) w.heap.size vl (by rfl) labs.length (L6.sv labs) HO1.out _ (by rfl) 1 [.string ⟨x.dropLast.toArray⟩] HS1.out HL1.out HL2.out HZ1.out ?_; intro v3 w3 ho3 hb3 hg3; obtain ⟨A3, c3, rfl⟩ := (Rd.of_own ho3).form; have hk3 := KEEP.out w3 hg3; have k3 := hk3.cell 0; have f3 := hk3.free 0; have q3 := KEEP2.out w3 hb3)
            | (rw [if_pos (by rfl)]; go_simp; go_at_call 42; refine (CT.out _).mono ?_; rintro e w' ⟨rfl, rfl⟩))
        all_goals go_wp2_with fail
        all_goals exact L6.line_round (off := off) (c1 := c1) HLA.out HBR.out ((Below.refl _ _).drew.alloc (Nat.le_refl _) _) HLB.out HRE.out HIN.out HLEN.out HX.out HRB.out hgw HV2.out HR2.out ho3 hb3 hg3 hk3
end Go.Proofs.YtfafdkbnmfpbmaaDoor

/- A text's pieces, in plain Lean: what strings.Lines yields, and what lines.cut makes of it. -/
namespace Go.Proofs.YtfafdkbnmfpbmaaDoor
open Go.RowKit Kit
set_option linter.unusedVariables false
set_option linter.unusedSimpArgs false

def L6.piece : List UInt8 → List UInt8 × List UInt8
  | [] => ([], [])
  | c :: t => if c = 10 then ([10], t) else (c :: (L6.piece t).1, (L6.piece t).2)
theorem L6.piece_app : ∀ l, (L6.piece l).1 ++ (L6.piece l).2 = l
  | [] => rfl
  | c :: t => by
    unfold L6.piece
    split
    · rename_i h; rw [h]; rfl
    · simp [L6.piece_app t]
theorem L6.piece_pos : ∀ {l : List UInt8}, l ≠ [] → 0 < (L6.piece l).1.length
  | [], h => absurd rfl h
  | c :: t, _ => by unfold L6.piece; split <;> simp
theorem L6.piece_left {l : List UInt8} (h : l ≠ []) : (L6.piece l).2.length < l.length := by
  have h1 := congrArg List.length (L6.piece_app l)
  have h2 := L6.piece_pos h
  simp only [List.length_append] at h1
  omega
theorem L6.piece_none : ∀ {l : List UInt8}, Lib.indexByte l 10 = -1 → L6.piece l = (l, [])
  | [], _ => rfl
  | c :: t, h => by
    unfold Lib.indexByte at h
    by_cases hc : c = 10
    · subst hc; simp at h
    · have hc' : (c == 10) = false := by simpa using hc
      rw [hc'] at h
      simp only [Bool.false_eq_true, if_false] at h
      by_cases ht : Lib.indexByte t 10 = -1
      · unfold L6.piece; rw [if_neg hc, L6.piece_none ht]
      · have ht' : (Lib.indexByte t 10 == -1) = false := by simpa using ht
        rw [ht'] at h
        have := Lib.indexByte_ge t 10
        simp only [Bool.false_eq_true, if_false] at h
        omega
theorem L6.piece_some : ∀ {l : List UInt8} (i : Nat), Lib.indexByte l 10 = (i : Int) → i < l.length ∧ L6.piece l = (l.take (i + 1), l.drop (i + 1))
  | [], i, h => by unfold Lib.indexByte at h; omega
  | c :: t, i, h => by
    unfold Lib.indexByte at h
    by_cases hc : c = 10
    · subst hc
      simp at h
      have hi : i = 0 := by omega
      subst hi
      exact ⟨by simp, by unfold L6.piece; simp⟩
    · have hc' : (c == 10) = false := by simpa using hc
      rw [hc'] at h
      simp only [Bool.false_eq_true, if_false] at h
      by_cases ht : Lib.indexByte t 10 = -1
      · rw [ht] at h; simp at h
      · have ht' : (Lib.indexByte t 10 == -1) = false := by simpa using ht
        rw [ht'] at h
        have h0 := Lib.indexByte_ge t 10
        simp only [Bool.false_eq_true, if_false] at h
        obtain ⟨j, rfl⟩ : ∃ j, i = j + 1 := ⟨i - 1, by omega⟩
        obtain ⟨h1, h2⟩ := L6.piece_some (l := t) j (by omega)
        refine ⟨by simp; omega, ?_⟩
        unfold L6.piece
        rw [if_neg hc, h2]
        simp
def L6.trim (l : List UInt8) : List UInt8 := Lib.trimSuffix l [10]
theorem L6.trim_eq (l : List UInt8) : L6.trim l = if (!l.isEmpty && l.getLastD 0 == 10) = true then l.dropLast else l := by
  unfold L6.trim Lib.trimSuffix
  rw [L6.suffix_one, List.dropLast_eq_take]
  rfl
theorem L6.trim_cons {c : UInt8} {p : List UInt8} (h : p ≠ []) : L6.trim (c :: p) = c :: L6.trim p := by
  rw [L6.trim_eq, L6.trim_eq]
  cases p with
  | nil => exact absurd rfl h
  | cons d q =>
    have e : (c :: d :: q).getLastD 0 = (d :: q).getLastD 0 := by simp [List.getLastD]
    rw [e]
    simp only [List.isEmpty_cons, Bool.not_false, Bool.true_and]
    split <;> simp
theorem L6.trim_len (l : List UInt8) : (L6.trim l).length ≤ l.length := by
  rw [L6.trim_eq]; split <;> simp
theorem L6.split_cons (c : UInt8) (t : List UInt8) : L6.split (c :: t) = if c = 10 then [] :: L6.split t else match L6.split t with
    | [] => [[c]]
    | a :: r => (c :: a) :: r := rfl
theorem L6.piece_cons (c : UInt8) (t : List UInt8) : L6.piece (c :: t) = if c = 10 then ([10], t) else (c :: (L6.piece t).1, (L6.piece t).2) := rfl
theorem L6.split_piece : ∀ {l : List UInt8}, l ≠ [] → L6.split l = L6.trim (L6.piece l).1 :: L6.split (L6.piece l).2
  | [], h => absurd rfl h
  | c :: t, _ => by
    rw [L6.split_cons, L6.piece_cons]
    by_cases hc : c = 10
    · subst hc; simp [L6.trim_eq]
    · rw [if_neg hc, if_neg hc]
      cases t with
      | nil => simp [L6.split, L6.piece, L6.trim_eq, hc]
      | cons d q =>
        have h1 := L6.split_piece (l := d :: q) (by simp)
        have h2 := L6.piece_pos (l := d :: q) (by simp)
        rw [h1, L6.trim_cons (by intro e; rw [e] at h2; simp at h2)]
theorem L6.split_len : ∀ (l : List UInt8), (L6.split l).length = l.count 10 + (if (!l.isEmpty && !(l.getLastD 0 == 10)) = true then 1 else 0)
  | [] => rfl
  | c :: t => by
    rw [L6.split_cons]
    have ih := L6.split_len t
    cases t with
    | nil => by_cases hc : c = 10 <;> simp [hc, L6.split]
    | cons d q =>
      have e : (c :: d :: q).getLastD 0 = (d :: q).getLastD 0 := by simp [List.getLastD]
      rw [e]
      simp only [List.isEmpty_cons, Bool.not_false, Bool.true_and] at ih ⊢
      by_cases hc : c = 10
      · subst hc
        rw [if_pos rfl, List.length_cons, ih, List.count_cons_self]
        omega
      · rw [if_neg hc, List.count_cons_of_ne hc]
        rw [← ih, L6.split_piece (l := d :: q) (by simp)]
        simp
theorem L6.split_each : ∀ (l : List UInt8), ∀ x ∈ L6.split l, x.length ≤ l.length := by
  intro l
  induction hn : l.length using Nat.strongRecOn generalizing l with
  | ind n ih =>
    intro x hx
    by_cases h : l = []
    · subst h; simp [L6.split] at hx
    · have h1 := L6.piece_left h
      have h2 := congrArg List.length (L6.piece_app l)
      simp only [List.length_append] at h2
      rw [L6.split_piece h] at hx
      rcases List.mem_cons.1 hx with rfl | hx
      · have := L6.trim_len (L6.piece l).1; omega
      · have := ih _ (by omega) (L6.piece l).2 rfl x hx; omega
/-- What Parse answers. -/
def L6.parseL : Nat → List L6.Line → List (List UInt8) → List L6.Line × Nat × Nat
  | _, acc, [] => (acc, 0, 0)
  | n, acc, t :: r => if 256 < t.length then ([], n + 1, 6) else match L6.wordsOf t with
    | none => ([], n + 1, 40)
    | some ws => L6.parseL (n + 1) (acc ++ [L6.line ws]) r
def L6.parse (s : List UInt8) : List L6.Line × Nat × Nat :=
  if 32768 < (L6.split s).length then ([], 0, 6) else L6.parseL 0 [] (L6.split s)
end Go.Proofs.YtfafdkbnmfpbmaaDoor

/- The walk of strings.Lines: its iterator writes the box that it has captured. -/
namespace Go.Proofs.YtfafdkbnmfpbmaaDoor
open Go.RowKit Go.Shelf Kit
set_option linter.unusedVariables false
set_option linter.unusedSimpArgs false
attribute [local go_sem] Oper.semAt_some

def L6.bx (s : List UInt8) : Array Value := #[.string ⟨s.toArray⟩]
theorem lines1_measure {w w' : World} {bs : Nat} {a b : List UInt8} (h : w.cell? ⟨bs, 0, none⟩ = some (.string ⟨a.toArray⟩)) (h' : w'.cell? ⟨bs, 0, none⟩ = (L6.bx b)[0]?) (hl : b.length < a.length) :
    (match w'.cell? ⟨bs, 0, none⟩ with | some (.string t) => t.size | _ => 0) < (match w.cell? ⟨bs, 0, none⟩ with | some (.string t) => t.size | _ => 0) := by
  rw [h', h]
  simpa [L6.bx, ByteArray.size] using hl
set_option maxRecDepth 100000 in
set_option maxHeartbeats 1000000 in
theorem lines1_in (n l bs : Nat) (hn : 1 ≤ n) (J : List UInt8 → World → Prop) (Jx : World → Prop)
    (hJs : ∀ s W u, J s W → J s (W.setCell ⟨bs, 0, none⟩ u)) (hJd : ∀ s W, J s W → J s W.drew)
    (s0 : List UInt8) (hs0 : s0.length ≤ 1000000000) (hY : ∀ s W, s ≠ [] → s.length ≤ s0.length → J s W → Bk W bs 9 (L6.bx (L6.piece s).2) → YieldAt Fence.wide (n - 1) Tryd.prog l #[.string ⟨(L6.piece s).1.toArray⟩] W fun e W' =>
      (e = .returned (.bool true) ∧ J (L6.piece s).2 W' ∧ Bk W' bs 9 (L6.bx (L6.piece s).2)) ∨ (e = .returned (.bool false) ∧ Jx W'))
    (W : World) (h0 : J s0 W) (hb : Bk W bs 9 (L6.bx s0)) :
    CallsIn Fence.wide n Tryd.prog 76 #[.func (.yield l) #[] #[], .pointer (some ⟨bs, 0, none⟩)] W fun e W' => (∃ v, e = .returned v) ∧ (J [] W' ∨ Jx W') := by
  have HS0 := Lib.hid hs0
  clear hs0
  refine callsIn_of_wp Tryd.func76 rfl trivial ?_ rfl
  simp only [Tryd.ntmps76, List.size_toArray, List.length_cons, List.length_nil, Nat.reduceAdd, Nat.reduceSub, Array.replicate_succ, Array.replicate_zero, List.push_toArray, List.append_toArray, List.nil_append, List.cons_append]
  have HJ0 := Lib.hid h0
  have HB0 := Lib.hid hb
  have HY := Lib.hid hY
  have HJS := Lib.hid hJs
  have HJD := Lib.hid hJd
  clear h0 hb hY hJs hJd
  gi_wp2
  gi_loopw [] (fun wr => ∃ s, J s wr ∧ Bk wr bs 9 (L6.bx s) ∧ s.length ≤ s0.length) (fun wr => match wr.cell? ⟨bs, 0, none⟩ with | some (.string t) => t.size | _ => 0)
  case atStart => exact ⟨s0, HJ0.out, HB0.out, Nat.le_refl _⟩
  case round =>
    obtain ⟨s, hJ, hbk, hle⟩ := hrel
    have HJ := Lib.hid hJ
    have HBK := Lib.hid hbk
    have HLE := Lib.hid hle
    clear hJ hle
    have hc := hbk.cell 0
    have hf := hbk.free 0
    simp only [L6.bx, List.getElem?_toArray, List.getElem?_cons_zero] at hc
    clear hbk
    by_cases he : s = []
    · subst he
      gi_wp2
      go_end0
      exact ⟨⟨_, rfl⟩, .inl HJ.out⟩
    · have HE := Lib.hid he
      have hpos : 0 < s.length := List.length_pos_iff.2 he
      have hpos' : (0 : Int) < s.length := by omega
      have CI := fun W => Tryd.strings_IndexByte ⟨s.toArray⟩ 10 W
      rw [show Int.toNat 10 = 10 from rfl] at CI
      simp only [Nat.toUInt8_eq] at CI
      have hleft := L6.piece_left he
      by_cases hi : Lib.indexByte s 10 = -1
      · have hp := L6.piece_none hi
        have CI := Lib.hid (fun W => (CI W).mono (R' := fun e w' => e = .returned (.int .i64 (-1)) ∧ W = w') (fun e w' h => ⟨by rw [h.1]; exact congrArg (fun z => Ending.returned (.int .i64 z)) hi, h.2.symm⟩))
        obtain ⟨fn, tmps, assign, body, hy, hR⟩ := HY.out s (wr.setCell ⟨bs, 0, none⟩ (.string ⟨#[]⟩)) he HLE.out (HJS.out _ _ _ HJ.out) (by have := HBK.out.set 0 (.string ⟨#[]⟩); rw [hp]; simpa [L6.bx] using this)
        rw [hp] at hy hR
        have HI := Lib.hid hi
        have HP := Lib.hid hp
        clear he hi hp
        gi_wp2_with (refine ⟨trivial, ?_⟩; gi_at_call 77; refine (callsIn_wide.2 (CI.out _)).mono ?_; rintro e w' ⟨rfl, rfl⟩)
        refine hR.mono ?_
        rintro e W3 (⟨rfl, hJ3, hk3⟩ | ⟨rfl, hJx3⟩)
        · gi_wp2
          go_roundw
          case rel => exact ⟨[], hJ3, hk3, by simp⟩
          case measure => exact lines1_measure hc (hk3.cell 0) (by simpa using hpos)
        · gi_wp2
          refine bodyPost_ret (results_none rfl _ _ _) rfl ?_
          exact ⟨⟨_, rfl⟩, .inr hJx3⟩
      · obtain ⟨k, hk⟩ : ∃ k : Nat, Lib.indexByte s 10 = (k : Int) := ⟨(Lib.indexByte s 10).toNat, by have := Lib.indexByte_ge s 10; omega⟩
        obtain ⟨hk1, hp⟩ := L6.piece_some k hk
        have CI := Lib.hid (fun W => (CI W).mono (R' := fun e w' => e = .returned (.int .i64 (k : Int)) ∧ W = w') (fun e w' h => ⟨by rw [h.1]; exact congrArg (fun z => Ending.returned (.int .i64 z)) hk, h.2.symm⟩))
        obtain ⟨fn, tmps, assign, body, hy, hR⟩ := HY.out s (wr.setCell ⟨bs, 0, none⟩ (.string ⟨(s.drop (k + 1)).toArray⟩)).drew he HLE.out (HJD.out _ _ (HJS.out _ _ _ HJ.out)) (by have := (HBK.out.set 0 (.string ⟨(s.drop (k + 1)).toArray⟩)).kept (Below.refl _ _).drew; rw [hp]; simpa [L6.bx] using this)
        rw [hp] at hy hR
        have HI := Lib.hid hk
        have HP := Lib.hid hp
        clear he hi hp hk
        have mixed : Tryd.prog.follows .mixedOrders = true := by kernel_rfl
        have hsl := HLE.out
        have hsl0 := HS0.out
        have hw : IntKind.i64.wrap ((k : Int) + 1) = (k : Int) + 1 := by go_bits; exact trivial
        have hi0 : (0 : Int) ≤ (k : Int) + 1 := by omega
        have hi1 : (k : Int) + 1 ≤ (s.length : Int) := by omega
        have hi2 : k + 1 ≤ s.length := by omega
        have hi3 : ((k : Int) + 1).toNat = k + 1 := by omega
        clear hsl hsl0
        have HX1 := Lib.hid (show (⟨s.toArray⟩ : ByteArray).extract 0 (k + 1) = ⟨(s.take (k + 1)).toArray⟩ by rw [ext_eq]; simp)
        have HX2 := Lib.hid (show (⟨s.toArray⟩ : ByteArray).extract (k + 1) s.length = ⟨(s.drop (k + 1)).toArray⟩ by rw [ext_eq, List.take_of_length_le (by simp)])
        gi_wp2_with (refine ⟨trivial, ?_⟩; gi_at_call 77; refine (callsIn_wide.2 (CI.out _)).mono ?_; rintro e w' ⟨rfl, rfl⟩)
        gi_region_with_o (fail)
        all_goals rw [HX1.out, HX2.out]
        all_goals gi_wp2
        all_goals refine hR.mono ?_
        all_goals rintro e W3 (⟨rfl, hJ3, hk3⟩ | ⟨rfl, hJx3⟩)
        all_goals gi_wp2
        all_goals first
          | (refine bodyPost_ret (results_none rfl _ _ _) rfl ?_; exact ⟨⟨_, rfl⟩, .inr hJx3⟩)
          | (go_roundw
             case rel => exact ⟨_, hJ3, hk3, by have := HLE.out; simp; omega⟩
             case measure => exact lines1_measure hc (hk3.cell 0) (by simp; omega))
end Go.Proofs.YtfafdkbnmfpbmaaDoor

/- The walk of lines.cut. -/
namespace Go.Proofs.YtfafdkbnmfpbmaaDoor
open Go.RowKit Go.Shelf Kit
set_option linter.unusedVariables false
set_option linter.unusedSimpArgs false
set_option linter.unusedSectionVars false
attribute [local go_sem] Oper.semAt_some

theorem lines_in (n : Nat) (s : List UInt8) (w : World) :
    CallsIn Fence.wide n Tryd.prog 41 #[.string ⟨s.toArray⟩] w fun e w' => e = .returned (.func (.func 76) #[] #[.pointer (some ⟨w.heap.size, 0, none⟩)]) ∧ w.alloc (.cells (L6.bx s) 9) = w' := by
  refine callsIn_of_wp Tryd.func41 rfl trivial ?_ rfl
  simp only [Tryd.ntmps41, List.size_toArray, List.length_cons, List.length_nil, Nat.reduceAdd, Nat.reduceSub, Array.replicate_succ, Array.replicate_zero, List.push_toArray, List.append_toArray, List.nil_append, List.cons_append]
  gi_wp2
  go_ret
  exact ⟨rfl, rfl⟩
theorem cut_in (n : Nat) (s : List UInt8) (w : World) :
    CallsIn Fence.wide n Tryd.prog 53 #[.string ⟨s.toArray⟩] w fun e w' => e = .returned (.func (.func 91) #[] #[.pointer (some ⟨w.heap.size, 0, none⟩)]) ∧ w.alloc (.cells (L6.bx s) 9) = w' := by
  refine callsIn_of_wp Tryd.func53 rfl trivial ?_ rfl
  simp only [Tryd.ntmps53, List.size_toArray, List.length_cons, List.length_nil, Nat.reduceAdd, Nat.reduceSub, Array.replicate_succ, Array.replicate_zero, List.push_toArray, List.append_toArray, List.nil_append, List.cons_append]
  gi_wp2
  go_ret
  exact ⟨rfl, rfl⟩

/-- Between two rounds of strings.Lines' loop in cut. -/
structure CutAt (l A : Nat) (rec : LoopState → Option Code → Loop) (J : Nat → List UInt8 → World → Prop) (s : List UInt8) (X : World) (k : Nat) : Prop where
  at_ : J k s X
  yb : Bk X A 145 #[.func (.yield l) #[] #[]]
  nb : Bk X (A + 1) 3 #[.int .i64 k]
  db : X.heap[A + 3]? = some (.deferred (some []))
  rb : X.heap[A + 4]? = some (.loop (rec .ready none))
  size : A + 5 ≤ X.heap.size
theorem CutAt.mid {l A : Nat} {rec : LoopState → Option Code → Loop} {J : Nat → List UInt8 → World → Prop} (hM : ∀ k s X X', J k s X → Mid A (A + 5) X X' → J k s X') {s : List UInt8} {X X' : World} {k : Nat}
    (h : CutAt l A rec J s X k) (hm : Mid A (A + 5) X X') (hk : ∀ i, i ≠ A + 2 → X'.heap[i]? = X.heap[i]?) : CutAt l A rec J s X' k :=
  ⟨hM _ _ _ _ h.at_ hm, (hk _ (by omega)).trans h.yb, (hk _ (by omega)).trans h.nb, (hk _ (by omega)).trans h.db, (hk _ (by omega)).trans h.rb, by rw [hm.size]; exact h.size⟩
section fin
variable {l A k : Nat} {rec : LoopState → Option Code → Loop} {J : Nat → List UInt8 → World → Prop} {Jx : World → Prop} {s : List UInt8} {X2 X3 : World}
  (hM : ∀ k s X X', J k s X → Mid A (A + 5) X X' → J k s X') (hMx : ∀ X X', Jx X → Mid A (A + 5) X X' → Jx X')
  (hb2 : X2.heap[A + 4]? = some (.loop (rec .busy none))) (hyb : Bk X2 A 145 #[.func (.yield l) #[] #[]]) (hsb : Bk X2 (A + 2) 9 (L6.bx (L6.piece s).2))
  (hnb : Bk X2 (A + 1) 3 (#[Value.int .i64 k].setIfInBounds 0 (.int .i64 ((k : Int) + 1)))) (hd : X2.heap[A + 3]? = some (.deferred (some []))) (hz : A + 5 ≤ X2.heap.size)
  (hkp : ∀ i, A ≤ i → i < A + 5 → X3.heap[i]? = X2.drew.heap[i]?) (hz3 : X2.drew.heap.size ≤ X3.heap.size)
include hM hMx hb2 hyb hsb hnb hd hz hkp hz3
theorem cut_round (hpost : J (k + 1) (L6.piece s).2 X3) : X3.heap[A + 4]? = some (.loop (rec .busy none)) ∧
    ((Ending.returned (.bool true) = .returned (.bool true) ∧ (∃ k, CutAt l A rec J (L6.piece s).2 (X3.putObj (A + 4) (.loop (rec .ready none))) k) ∧ Bk (X3.putObj (A + 4) (.loop (rec .ready none))) (A + 2) 9 (L6.bx (L6.piece s).2)) ∨
      (Ending.returned (.bool true) = .returned (.bool false) ∧ Jx (X3.putObj (A + 4) (.loop (rec .ready none))) ∧ (X3.putObj (A + 4) (.loop (rec .ready none))).heap[A + 3]? = some (.deferred (some [])) ∧ (X3.putObj (A + 4) (.loop (rec .ready none))).heap[A + 4]? = some (.loop (rec .done (some .ret))))) := by
  have hz' : A + 5 ≤ X3.heap.size := Nat.le_trans hz hz3
  have e0 : Bk X3 A 145 #[.func (.yield l) #[] #[]] := (hkp A (Nat.le_refl _) (by omega)).trans hyb
  have e1 : Bk X3 (A + 1) 3 #[.int .i64 ((k + 1 : Nat) : Int)] := by
    have := (hkp (A + 1) (by omega) (by omega)).trans hnb
    unfold Bk
    simpa using this
  have e2 : Bk X3 (A + 2) 9 (L6.bx (L6.piece s).2) := (hkp (A + 2) (by omega) (by omega)).trans hsb
  refine ⟨(hkp (A + 4) (by omega) (by omega)).trans hb2, .inl ⟨rfl, ⟨k + 1, hM _ _ _ _ hpost ((Mid.refl _ _ _).putObj _ _ (by omega) (by omega)), e0.put _ (by omega), e1.put _ (by omega),
    (World.putObj_heap_other (by omega)).trans ((hkp (A + 3) (by omega) (by omega)).trans hd), World.putObj_heap_same (by omega), by rw [World.putObj_size]; exact hz'⟩, e2.put _ (by omega)⟩⟩
theorem cut_stop (hpost : Jx X3) : X3.heap[A + 4]? = some (.loop (rec .busy none)) ∧
    ((Ending.returned (.bool false) = .returned (.bool true) ∧ (∃ k, CutAt l A rec J (L6.piece s).2 (X3.putObj (A + 4) (.loop (rec .done (some .ret)))) k) ∧ Bk (X3.putObj (A + 4) (.loop (rec .done (some .ret)))) (A + 2) 9 (L6.bx (L6.piece s).2)) ∨
      (Ending.returned (.bool false) = .returned (.bool false) ∧ Jx (X3.putObj (A + 4) (.loop (rec .done (some .ret)))) ∧ (X3.putObj (A + 4) (.loop (rec .done (some .ret)))).heap[A + 3]? = some (.deferred (some [])) ∧ (X3.putObj (A + 4) (.loop (rec .done (some .ret)))).heap[A + 4]? = some (.loop (rec .done (some .ret))))) := by
  have hz' : A + 5 ≤ X3.heap.size := Nat.le_trans hz hz3
  exact ⟨(hkp (A + 4) (by omega) (by omega)).trans hb2, .inr ⟨rfl, hMx _ _ hpost ((Mid.refl _ _ _).putObj _ _ (by omega) (by omega)),
    (World.putObj_heap_other (by omega)).trans ((hkp (A + 3) (by omega) (by omega)).trans hd), World.putObj_heap_same (by omega)⟩⟩
end fin
set_option maxRecDepth 100000 in
set_option maxHeartbeats 1000000 in
theorem cut1_in (n l : Nat) (hn : 9 ≤ n) (J : Nat → List UInt8 → World → Prop) (Jx : World → Prop) (W : World)
    (hM : ∀ k s X X', J k s X → Mid W.heap.size (W.heap.size + 5) X X' → J k s X') (hMx : ∀ X X', Jx X → Mid W.heap.size (W.heap.size + 5) X X' → Jx X')
    (hk : ∀ k s X, J k s X → k ≤ 1000000000)
    (hY : ∀ m k s X, s ≠ [] → W.heap.size + 5 ≤ X.heap.size → J k s X → YieldAt Fence.wide m Tryd.prog l #[.int .i64 ((k : Int) + 1), .string ⟨(L6.trim (L6.piece s).1).toArray⟩] X fun e X' =>
      ∃ b, e = .returned (.bool b) ∧ (∀ i, W.heap.size ≤ i → i < W.heap.size + 5 → X'.heap[i]? = X.heap[i]?) ∧ X.heap.size ≤ X'.heap.size ∧ (if b = true then J (k + 1) (L6.piece s).2 X' else Jx X'))
    (s0 : List UInt8) (hs0 : s0.length ≤ 1000000000) (bp : Nat) (hb : Bk W bp 9 (L6.bx s0)) (h0 : ∀ W1, Below W.heap.size W W1 → J 0 s0 W1) :
    CallsIn Fence.wide n Tryd.prog 91 #[.func (.yield l) #[] #[], .pointer (some ⟨bp, 0, none⟩)] W fun e W' => (∃ v, e = .returned v) ∧ ((∃ k, J k [] W') ∨ Jx W') := by
  have h1 : 1 ≤ n := by omega
  have HS0 := Lib.hid hs0
  have HM := Lib.hid hM
  have HMX := Lib.hid hMx
  have HK := Lib.hid hk
  have HY := Lib.hid hY
  have H0 := Lib.hid h0
  have HB := Lib.hid hb
  have hlt := hb.lt
  have hc := hb.cell 0
  simp only [L6.bx, List.getElem?_toArray, List.getElem?_cons_zero] at hc
  clear hM hMx hk hY h0 hb hs0
  refine callsIn_of_wp_marks Tryd.func91 rfl trivial ?_ rfl
  simp only [Tryd.ntmps91, List.size_toArray, List.length_cons, List.length_nil, Nat.reduceAdd, Nat.reduceSub, Array.replicate_succ, Array.replicate_zero, List.push_toArray, List.append_toArray, List.nil_append, List.cons_append]
  gi_wp2_with (refine ⟨trivial, ?_⟩; gi_at_call 41; refine (lines_in _ s0 _).mono ?_; rintro e w' ⟨rfl, rfl⟩)
  have hsz : (((W.alloc (.cells #[.func (.yield l) #[] #[]] 145)).alloc (.cells #[.int .i64 0] 3)).alloc (.cells (L6.bx s0) 9)).heap.size = W.heap.size + 3 := by simp
  have hb0 : Bk (((W.alloc (.cells #[.func (.yield l) #[] #[]] 145)).alloc (.cells #[.int .i64 0] 3)).alloc (.cells (L6.bx s0) 9)) W.heap.size 145 #[.func (.yield l) #[] #[]] :=
    (Bk.fresh W _ _).kept (((Below.refl _ _).alloc (Nat.le_refl _) _).alloc (by simp) _)
  have hb1 : Bk (((W.alloc (.cells #[.func (.yield l) #[] #[]] 145)).alloc (.cells #[.int .i64 0] 3)).alloc (.cells (L6.bx s0) 9)) (W.heap.size + 1) 3 #[.int .i64 0] := by
    have := (Bk.fresh (W.alloc (.cells #[.func (.yield l) #[] #[]] 145)) 3 #[.int .i64 0]).kept ((Below.refl _ _).alloc (Nat.le_refl _) (.cells (L6.bx s0) 9))
    rwa [World.size_alloc] at this
  have hb2 : Bk (((W.alloc (.cells #[.func (.yield l) #[] #[]] 145)).alloc (.cells #[.int .i64 0] 3)).alloc (.cells (L6.bx s0) 9)) (W.heap.size + 2) 9 (L6.bx s0) := by
    have := Bk.fresh ((W.alloc (.cells #[.func (.yield l) #[] #[]] 145)).alloc (.cells #[.int .i64 0] 3)) 9 (L6.bx s0)
    rwa [World.size_alloc, World.size_alloc] at this
  have hbw : Below W.heap.size W (((W.alloc (.cells #[.func (.yield l) #[] #[]] 145)).alloc (.cells #[.int .i64 0] 3)).alloc (.cells (L6.bx s0) 9)) :=
    (((Below.refl _ _).alloc (Nat.le_refl _) _).alloc (by simp) _).alloc (by simp; omega) _
  generalize ((W.alloc (.cells #[.func (.yield l) #[] #[]] 145)).alloc (.cells #[.int .i64 0] 3)).alloc (.cells (L6.bx s0) 9) = W2 at hsz hb0 hb1 hb2 hbw ⊢
  refine range_at (gf := 76) (lb := #[.pointer (some ⟨W.heap.size + 1 + 1, 0, none⟩)]) rfl (enters_of Tryd.func76 (by kernel_rfl) rfl)
    (fun _ X => (∃ k, J k [] X) ∧ X.heap[W.heap.size + 3]? = some (.deferred (some []))) (fun _ c X => Jx X ∧ c = .ret ∧ X.heap[W.heap.size + 3]? = some (.deferred (some []))) ?call ?done ?stop
  case done =>
    rintro fn X ⟨⟨k, hJ⟩, hd⟩
    rw [hsz]
    gi_wp2
    refine ⟨by simp, .inl ⟨_, _, rfl, run_takeDeferred ((World.putObj_heap_other (by omega)).trans hd), ?_⟩⟩
    exact ⟨_, results_none rfl _ _ _, ⟨_, rfl⟩, .inl ⟨k, HM.out _ _ _ _ hJ (((Mid.refl _ _ _).putObj _ _ (by omega) (by omega)).putObj _ _ (by omega) (by omega))⟩⟩
  case stop =>
    rintro fn c X ⟨hJx, rfl, hd⟩
    rw [hsz]
    gi_wp2
    refine ⟨by simp, .inl ⟨_, _, rfl, run_takeDeferred ((World.putObj_heap_other (by omega)).trans hd), ?_⟩⟩
    exact ⟨_, results_none rfl _ _ _, ⟨_, rfl⟩, .inr (HMX.out _ _ hJx (((Mid.refl _ _ _).putObj _ _ (by omega) (by omega)).putObj _ _ (by omega) (by omega)))⟩
  case call =>
    intro fn
    rw [hsz]
    generalize hrec : (rec_ fn _ _ _ _ (W.heap.size + 3)) = rec
    show CallsIn Fence.wide (n - 1) Tryd.prog 76 #[.func (.yield (W.heap.size + 4)) #[] #[], .pointer (some ⟨W.heap.size + 2, 0, none⟩)] _ _
    have hbw3 : Below W2.heap.size W2 ((W2.alloc (.deferred (some []))).alloc (.loop (rec .ready none))) := ((Below.refl _ _).alloc (Nat.le_refl _) _).alloc (by simp) _
    have hd3 : ((W2.alloc (.deferred (some []))).alloc (.loop (rec .ready none))).heap[W.heap.size + 3]? = some (.deferred (some [])) := by
      have := (Below.heap_alloc (W2.alloc (.deferred (some []))) (.loop (rec .ready none)) W2.heap.size (by simp)).trans (World.alloc_heap_new W2 _)
      rwa [hsz] at this
    have hr3 : ((W2.alloc (.deferred (some []))).alloc (.loop (rec .ready none))).heap[W.heap.size + 4]? = some (.loop (rec .ready none)) := by
      have := World.alloc_heap_new (W2.alloc (.deferred (some []))) (.loop (rec .ready none))
      rwa [World.size_alloc, hsz] at this
    have hsz3 : ((W2.alloc (.deferred (some []))).alloc (.loop (rec .ready none))).heap.size = W.heap.size + 5 := by simp [hsz]
    have hJ3 : J 0 s0 ((W2.alloc (.deferred (some []))).alloc (.loop (rec .ready none))) := H0.out _ (hbw.trans (hbw3.mono (by omega)))
    generalize (W2.alloc (.deferred (some []))).alloc (.loop (rec .ready none)) = W3 at hbw3 hd3 hr3 hsz3 hJ3 ⊢
    refine (lines1_in (n - 1) (W.heap.size + 4) (W.heap.size + 2) (by omega) (fun s X => ∃ k, CutAt l W.heap.size rec J s X k) (fun X => Jx X ∧ X.heap[W.heap.size + 3]? = some (.deferred (some [])) ∧ X.heap[W.heap.size + 4]? = some (.loop (rec .done (some .ret)))) ?_ ?_ s0 HS0.out ?_ W3 ⟨0, hJ3, hb0.kept hbw3, hb1.kept hbw3, hd3, hr3, by omega⟩ (hb2.kept hbw3)).mono ?_
    · rintro s X u ⟨k, h⟩
      exact ⟨k, h.mid HM.out ((Mid.refl _ _ _).setCell _ _ _ (by omega) (by omega)) (fun i hi => Below.heap_setCell _ _ _ _ hi)⟩
    · rintro s X ⟨k, h⟩
      exact ⟨k, h.mid HM.out (Mid.refl _ _ _).drew (fun i hi => rfl)⟩
    · rintro s X hs hle ⟨k, h⟩ hbs
      have hr := h.rb
      rw [← hrec] at hr
      refine yield_at hr rfl { tmps := #[.func (.yield l) #[] #[], .pointer (some ⟨bp, 0, none⟩), .pointer (some ⟨W.heap.size, 0, none⟩), .pointer (some ⟨W.heap.size + 1, 0, none⟩), .string ⟨(L6.piece s).1.toArray⟩, .string ⟨s0.toArray⟩, .func (.func 76) #[] #[.pointer (some ⟨W.heap.size + 1 + 1, 0, none⟩)], .string ⟨(L6.piece s).1.toArray⟩, undef, undef, undef, undef, undef, undef, undef, undef], defers := [] } (fun K hK => by gi_wp2; exact hK) ?_
      rw [hrec]
      have hX1b : (X.putObj (W.heap.size + 4) (.loop (rec .busy none))).heap[W.heap.size + 4]? = some (.loop (rec .busy none)) := World.putObj_heap_same (by have := h.size; omega)
      have hX1y := h.yb.put (.loop (rec .busy none)) (l := W.heap.size + 4) (by omega)
      have hX1n := h.nb.put (.loop (rec .busy none)) (l := W.heap.size + 4) (by omega)
      have hX1s := hbs.put (.loop (rec .busy none)) (l := W.heap.size + 4) (by omega)
      have hX1d : (X.putObj (W.heap.size + 4) (.loop (rec .busy none))).heap[W.heap.size + 3]? = some (.deferred (some [])) := (World.putObj_heap_other (by omega)).trans h.db
      have hX1j := HM.out _ _ _ _ h.at_ ((Mid.refl _ _ _).putObj (W.heap.size + 4) (.loop (rec .busy none)) (by omega) (by omega))
      have hX1z : W.heap.size + 5 ≤ (X.putObj (W.heap.size + 4) (.loop (rec .busy none))).heap.size := by rw [World.putObj_size]; exact h.size
      generalize X.putObj (W.heap.size + 4) (.loop (rec .busy none)) = X1 at hX1b hX1y hX1n hX1s hX1d hX1j hX1z ⊢
      clear h hbs hr
      have hk9 := HK.out _ _ _ hX1j
      have hw : IntKind.i64.wrap ((k : Int) + 1) = (k : Int) + 1 := by go_bits; exact trivial
      have c0 := hX1y.cell 0
      have c1 := hX1n.cell 0
      have f1 := hX1n.free 0
      have mixed : Tryd.prog.follows .mixedOrders = true := by kernel_rfl
      have CT := Lib.hid (fun Z => Tryd.strings_TrimSuffix ⟨(L6.piece s).1.toArray⟩ ⟨#[10]⟩ Z (by have h1 := congrArg List.length (L6.piece_app s); simp only [List.length_append] at h1; have h2 := HS0.out; simp [ByteArray.size]; omega))
      gi_wp2_with fail
      have hX2b : (X1.setCell ⟨W.heap.size + 1, 0, none⟩ (.int .i64 ((k : Int) + 1))).heap[W.heap.size + 4]? = some (.loop (rec .busy none)) := (Below.heap_setCell _ _ _ _ (by show W.heap.size + 4 ≠ W.heap.size + 1; omega)).trans hX1b
      have hX2y := (But.setCell X1 (W.heap.size + 1) 0 (.int .i64 ((k : Int) + 1))).bk hX1y (by omega)
      have hX2s := (But.setCell X1 (W.heap.size + 1) 0 (.int .i64 ((k : Int) + 1))).bk hX1s (by omega)
      have hX2n := hX1n.set 0 (.int .i64 ((k : Int) + 1))
      have hX2d : (X1.setCell ⟨W.heap.size + 1, 0, none⟩ (.int .i64 ((k : Int) + 1))).heap[W.heap.size + 3]? = some (.deferred (some [])) := (Below.heap_setCell _ _ _ _ (by show W.heap.size + 3 ≠ W.heap.size + 1; omega)).trans hX1d
      have hX2j := HM.out _ _ _ _ hX1j ((Mid.refl _ _ _).setCell (W.heap.size + 1) 0 (.int .i64 ((k : Int) + 1)) (by omega) (by omega))
      have hX2z : W.heap.size + 5 ≤ (X1.setCell ⟨W.heap.size + 1, 0, none⟩ (.int .i64 ((k : Int) + 1))).heap.size := by simpa [World.setCell] using hX1z
      generalize X1.setCell ⟨W.heap.size + 1, 0, none⟩ (.int .i64 ((k : Int) + 1)) = X2 at hX2b hX2y hX2s hX2n hX2d hX2j hX2z ⊢
      clear hX1b hX1y hX1n hX1s hX1d hX1j hX1z c0 c1 f1
      have c0 := hX2y.cell 0
      have c1 := hX2n.cell 0
      simp only [List.setIfInBounds_toArray, List.set_cons_zero, List.getElem?_toArray, List.getElem?_cons_zero] at c0 c1
      obtain ⟨fn2, tmps2, assign2, body2, hy, hR⟩ := HY.out (n - 1 - 1 - 1) k s X2.drew hs hX2z (HM.out _ _ _ _ hX2j (Mid.refl _ _ _).drew)
      unfold L6.trim at hy
      have HD2 := Lib.hid hX2d
      have HB2 := Lib.hid hX2b
      have HYB2 := Lib.hid hX2y
      have HSB2 := Lib.hid hX2s
      have HNB2 := Lib.hid hX2n
      have HZ2 := Lib.hid hX2z
      clear hX2b hX2y hX2s hX2n hX2d hX2j hX2z
      have hd1 : 1 ≤ n - 1 - 1 := by omega
      have hd2 : 1 ≤ n - 1 - 1 - 1 := by omega
      gi_region_with_o (first
        | (refine ⟨trivial, ?_⟩; gi_at_call 42; refine (CallsIn.inRound _ (callsIn_wide.2 (CT.out _))).mono ?_; rintro e w' ⟨rfl, rfl⟩)
        | (refine hR.mono ?_; rintro e X3 ⟨b, rfl, hkp, hz3, hpost⟩))
      all_goals (cases b <;> (simp only [if_true, if_false, Bool.false_eq_true] at hpost; gi_wp2))
      all_goals first
        | exact cut_round HM.out HMX.out HB2.out HYB2.out HSB2.out HNB2.out HD2.out HZ2.out hkp hz3 hpost
        | exact cut_stop HM.out HMX.out HB2.out HYB2.out HSB2.out HNB2.out HD2.out HZ2.out hkp hz3 hpost
    · rintro e X ⟨hv, (⟨k, h⟩ | ⟨hJx, hd, hr⟩)⟩
      · exact ⟨hv, .inl ⟨h.rb, ⟨k, h.at_⟩, h.db⟩⟩
      · exact ⟨hv, .inr ⟨_, hr, hJx, rfl, hd⟩⟩
end Go.Proofs.YtfafdkbnmfpbmaaDoor

/- Slices of lines, of the call's own; append at the wide fence in a round. -/
namespace Go.Proofs.YtfafdkbnmfpbmaaDoor
open Go.RowKit Go.Shelf Kit
set_option linter.unusedVariables false
set_option linter.unusedSimpArgs false

theorem llrt : RowTy Tryd.prog 25 42 3 64 :=
  ⟨Tryd.underlying25, by
    have h : (Tryd.prog.info? 42).map (fun i => (i.zero, i.size, i.bytes)) = some (some (.agg #[.slice none 0 0, .string ByteArray.empty, .slice none 0 0]), 3, 64) := by kernel_rfl
    obtain ⟨i, h1, h2, h3, h4⟩ := info_parts h
    exact ⟨i, _, h1, h2, h3, h4, by kernel_rfl⟩⟩
/-- These cells are these lines. -/
def LinesV (base : Nat) (w : World) : List L6.Line → List Value → Prop
  | [], cs => cs = []
  | x :: t, cs => ∃ vl va r, cs = vl :: .string ⟨x.word.toArray⟩ :: va :: r ∧ OwnS base w vl x.labels ∧ OwnS base w va x.args ∧ LinesV base w t r
theorem LinesV.map {base : Nat} {w w' : World} (h : ∀ v l, OwnS base w v l → OwnS base w' v l) : ∀ {ls : List L6.Line} {cs : List Value}, LinesV base w ls cs → LinesV base w' ls cs
  | [], _, e => e
  | _ :: _, _, ⟨vl, va, r, e, h1, h2, h3⟩ => ⟨vl, va, r, e, h _ _ h1, h _ _ h2, LinesV.map h h3⟩
theorem LinesV.snoc {base : Nat} {w : World} {x : L6.Line} {vl va : Value} (h1 : OwnS base w vl x.labels) (h2 : OwnS base w va x.args) : ∀ {ls : List L6.Line} {cs : List Value}, LinesV base w ls cs → LinesV base w (ls ++ [x]) (cs ++ [vl, .string ⟨x.word.toArray⟩, va])
  | [], _, e => by
    have e : _ = [] := e
    subst e
    exact ⟨vl, va, [], rfl, h1, h2, rfl⟩
  | _ :: _, _, ⟨vl', va', r, e, g1, g2, g3⟩ => by subst e; exact ⟨vl', va', _, rfl, g1, g2, LinesV.snoc h1 h2 g3⟩
def OwnL (base : Nat) (w : World) (v : Value) (ls : List L6.Line) : Prop := ∃ cs, w.ownsRow base 42 3 v ls.length cs ∧ LinesV base w ls cs
theorem OwnL.nil (base : Nat) (w : World) : OwnL base w (.slice none 0 0) [] := ⟨[], World.ownsRow_nil w base 42 3, rfl⟩
theorem OwnL.kept {base : Nat} {w w' : World} {v : Value} {ls : List L6.Line} (h : OwnL base w v ls) (hb : Below w.heap.size w w') : OwnL base w' v ls := by
  obtain ⟨cs, h1, h2⟩ := h
  exact ⟨cs, own_kept h1 hb, h2.map fun _ _ h => h.kept hb⟩
theorem OwnL.form {base : Nat} {w : World} {v : Value} {ls : List L6.Line} (h : OwnL base w v ls) : ∃ A c, v = .slice A ls.length c := by
  obtain ⟨cs, h1, _⟩ := h
  exact (Rd.of_own h1).form
/-- Blocks below the base may turn. -/
theorem own_up {w w' : World} {base : Nat} {e : TypeId} {size : Nat} {v : Value} {n : Nat} {xs : List Value} (h : w.ownsRow base e size v n xs) (hk : ∀ g, base ≤ g → g < w.heap.size → w'.heap[g]? = w.heap[g]?) : w'.ownsRow base e size v n xs := by
  obtain ⟨h1, h2⟩ := h
  refine ⟨h1, ?_⟩
  rcases h2 with h2 | ⟨g, cap, cur, rfl, hb', hh, rest⟩
  · exact .inl h2
  · exact .inr ⟨g, cap, cur, rfl, hb', (hk g hb' (Array.getElem?_eq_some_iff.1 hh).1).trans hh, rest⟩
theorem OwnL.up {base : Nat} {w w' : World} {v : Value} {ls : List L6.Line} (h : OwnL base w v ls) (hk : ∀ g, base ≤ g → g < w.heap.size → w'.heap[g]? = w.heap[g]?) : OwnL base w' v ls := by
  obtain ⟨cs, h1, h2⟩ := h
  exact ⟨cs, own_up h1 hk, h2.map fun _ _ h => own_up h hk⟩
theorem OwnL.rebase {base base' : Nat} {w : World} {v : Value} {ls : List L6.Line} (h : OwnL base w v ls) (hb : base' ≤ base) : OwnL base' w v ls := by
  obtain ⟨cs, h1, h2⟩ := h
  refine ⟨cs, own_rebase h1 hb, ?_⟩
  clear h1
  induction ls generalizing cs with
  | nil => exact h2
  | cons x t ih =>
    obtain ⟨vl, va, r, e, g1, g2, g3⟩ := h2
    exact ⟨vl, va, r, e, g1.rebase hb, g2.rebase hb, ih _ g3⟩
/-- One more line behind them: the row has grown. -/
theorem OwnL.grown {base : Nat} {w w1 w' : World} {v v' vl va : Value} {ls : List L6.Line} {x : L6.Line} {cs : List Value} (h2 : LinesV base w ls cs) (hv : w1.ownsRow base 42 3 v ls.length cs) (hb : Below w.heap.size w w1)
    (hl : OwnS base w1 vl x.labels) (ha : OwnS base w1 va x.args) (ho : w'.ownsRow base 42 3 v' (ls.length + 1) (cs ++ [vl, .string ⟨x.word.toArray⟩, va])) (hg : w1.grownBy w' v.ownBlock) : OwnL base w' v' (ls ++ [x]) := by
  have keep : ∀ u l, OwnS base w1 u l → OwnS base w' u l := by
    intro u l hu
    obtain ⟨e1, e2⟩ := hu
    refine ⟨e1, ?_⟩
    rcases e2 with e2 | ⟨g', cap, cur, rfl, hb', hh, rest⟩
    · exact .inl e2
    · refine .inr ⟨g', cap, cur, rfl, hb', (hg.block g' (Array.getElem?_eq_some_iff.1 hh).1 (fun e => ?_)).trans hh, rest⟩
      obtain ⟨_, q⟩ := hv
      rcases q with ⟨rfl, _⟩ | ⟨g2, cap2, cur2, rfl, _, hh2, _⟩
      · simp [Value.ownBlock] at e
      · simp [Value.ownBlock] at e
        subst e
        rw [hh] at hh2
        simp at hh2
  refine ⟨_, by simpa using ho, LinesV.snoc (keep _ _ hl) (keep _ _ ha) (h2.map fun u l hu => keep _ _ (hu.kept hb))⟩

theorem L6.next_sum (c : UInt8) (t : List UInt8) : (L6.next (c :: t)).1.length + (L6.next (c :: t)).2.1.length ≤ (c :: t).length := by
  by_cases h34 : c = 34
  · rw [L6.next_quote h34]
    cases hq : L6.quote t with
    | none => simp
    | some p =>
      have := congrArg List.length (L6.quote_len t p hq)
      simp only [List.length_append, List.length_cons] at this ⊢
      omega
  · rw [L6.next_plain h34]
    have := congrArg List.length (L6.word_behind (c :: t))
    simp only [List.length_append] at this
    show (L6.word (c :: t)).length + (L6.behind (c :: t)).length ≤ (c :: t).length
    omega
theorem L6.words_bound : ∀ (n : Nat) (l : List UInt8) (ws : List (List UInt8)), L6.words n l = some ws → ws.length ≤ l.length ∧ ∀ x ∈ ws, x.length ≤ l.length
  | 0, l, ws, h => by cases h; simp
  | n + 1, l, ws, h => by
    unfold L6.words at h
    cases hb : L6.bare l with
    | nil => rw [hb] at h; cases h; simp
    | cons c t =>
      rw [hb] at h
      simp only at h
      have h1 := L6.bare_len l
      have h2 := L6.next_len c t (L6.bare_head hb)
      have h3 := L6.next_sum c t
      rw [hb] at h1
      split at h
      · cases h; simp
      · split at h
        · cases hw : L6.words n (L6.next (c :: t)).2.1 with
          | none => rw [hw] at h; cases h
          | some r =>
            rw [hw] at h
            cases h
            obtain ⟨g1, g2⟩ := L6.words_bound n _ r hw
            refine ⟨by simp only [List.length_cons] at h1 h2 ⊢; omega, fun x hx => ?_⟩
            rcases List.mem_cons.1 hx with rfl | hx
            · omega
            · have := g2 x hx; omega
        · cases h
theorem L6.wordsOf_bound {l : List UInt8} {ws : List (List UInt8)} (h : L6.wordsOf l = some ws) : ws.length ≤ l.length ∧ ∀ x ∈ ws, x.length ≤ l.length := L6.words_bound _ _ _ h
/-- append as a step of a drawn region, at a fence. -/
theorem step_appendIn {F : Fence} {n' : Nat} {P : Program} {w : World} {ops : Array Oper} {o : Oper} {a : Act} {K : Act → World → Prop} {Q : Exit → Act → World → Prop} {E : Prop} (hgd : o.guard = none) (s x : Operand) (t tx : TypeId)
    (ho : o.op = .call { callee := .builtin .append, args := #[s, x], argTypes := #[t, tx] }) {e : TypeId} {size bytes : Nat} (rt : RowTy P t e size bytes) (hsz : 0 < size) (base : Nat) (v : Value) (hs : a.eval s = v) (n : Nat) (xs : List Value)
    (hown : w.ownsRow base e size v n xs) (vx : Value) (hx : a.eval x = vx) (m : Nat) (news : List Value) (hsrc : Src P size tx vx m news w) (hlen : (n + m) * bytes ≤ 140737488355328) (h63 : n + m ≤ maxLen) (hbase : base ≤ w.heap.size)
    (h : ∀ v' w', w'.ownsRow base e size v' (n + m) (xs ++ news) → Below base w w' → w.grownBy w' v.ownBlock → K (a.put o.dst v') w') :
    if Region.wanted o (yielded ops a.tmps) = true then Oper.wpIn F n' P o a w K Q else E := by
  have hw : Region.wanted o (yielded ops a.tmps) = true := by simp [Region.wanted, hgd]
  rw [if_pos hw]
  obtain ⟨v', w', hr, h2, h3, h4⟩ := run_appendR (P := P) w tx o.type rt hsz base v n xs hown vx m news hsrc hlen h63 hbase
  unfold Oper.wpIn
  refine ⟨?_, ?_⟩
  · simp [Oper.about, ho, resolve, Target.leads, Sem.run_pure]
  · rw [Oper.semAt_plain F _ _ (by rw [ho]; intro c hc'; cases hc')]
    unfold execOp
    simp only [ho, resolve, invoke, builtin, Sem.run_bind, Sem.run_pure, Result.andThen_ok, List.map_toArray, List.map_cons, List.map_nil, hs, hx, hr]
    exact h v' w' h2 h3 h4
end Go.Proofs.YtfafdkbnmfpbmaaDoor
