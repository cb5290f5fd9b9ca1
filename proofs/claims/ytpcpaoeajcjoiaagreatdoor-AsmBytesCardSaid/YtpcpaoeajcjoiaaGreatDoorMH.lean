/- Texts joined, what is not reached left out. -/
import Derived.Test.YtpcpaoeajcjoiaaGreatDoorMS
import Derived.Test.YtpcpaoeajcjoiaaGreatDoorMG
import Derived.Test.YtpcpaoeajcjoiaaGreatDoorMF
/- Layer 7: the document's passes; what a piece asks of symbols. Plain. -/
namespace Go.Proofs.YtpcpaoeajcjoiaaGreatDoor
set_option linter.unusedVariables false
set_option linter.unusedSimpArgs false

/-- What a piece's kind says of its names. -/
structure As.Kd (p : As.P) : Prop where
  none : p.kind = 0 → p.name = []
  some : p.kind ≠ 0 → p.name ≠ []
  src : p.kind = 5 → p.src ≠ []
  nsrc : p.kind ≠ 5 → p.src = []
  code : p.code = true → p.kind ≤ 3 ∧ p.bytes = []
  data : p.code = false → p.kind = 0 ∨ p.kind = 4 ∨ p.kind = 5
def As.Kx (x : As.L) : Prop := x.ok = true → ∀ p ∈ x.p, As.Kd p
theorem As.Kx.put {x : As.L} {p : As.P} (h : As.Kx x) (hp : x.ok = true → As.Kd p) : As.Kx (As.put p x) := fun ho q hq => by
  rcases List.mem_append.1 hq with hq | hq
  · exact h ho q hq
  · rw [List.mem_singleton.1 hq]; exact hp ho
theorem As.sat_ok {x : As.L} {b : Bool} (h : (As.sat b x).ok = true) : x.ok = true ∧ b = true := by
  have h : (x.ok && b) = true := h
  simpa using h
theorem As.next_ok {x : As.L} (h : (As.next x).2.ok = true) : x.ok = true := by
  unfold As.next at h
  split at h
  · cases h
  · exact h
theorem As.name_ok2 {x : As.L} (h : (As.name x).2.ok = true) : x.ok = true := As.next_ok (As.sat_ok h).1
theorem As.name_ne {x : As.L} (h : (As.name x).2.ok = true) : (As.name x).1 ≠ [] := by
  have h2 : As.symbol (As.next x).1 = true := (As.sat_ok h).2
  show (As.next x).1 ≠ []
  intro e
  rw [e] at h2
  unfold As.symbol at h2
  simp at h2
theorem As.Kx.sat {x : As.L} (h : As.Kx x) (b : Bool) : As.Kx (As.sat b x) := fun ho => h (As.sat_ok ho).1
theorem As.Kx.next {x : As.L} (h : As.Kx x) : As.Kx (As.next x).2 := fun ho => by rw [As.next_p]; exact h (As.next_ok ho)
theorem As.Kx.reg {x : As.L} (h : As.Kx x) : As.Kx (As.reg x).2 := h.next.sat _
theorem As.Kx.num {x : As.L} (h : As.Kx x) : As.Kx (As.num x).2 := h.next.sat _
theorem As.Kx.name {x : As.L} (h : As.Kx x) : As.Kx (As.name x).2 := h.next.sat _
theorem As.Kx.either {x : As.L} (h : As.Kx x) : As.Kx (As.either x).2 := by
  unfold As.either
  split
  · exact h.name
  · split
    · exact h
    · exact h.name
theorem As.Kd.code0 (i : Is.Inst) : As.Kd ⟨true, i, [], 0, [], []⟩ := ⟨fun _ => rfl, fun e => absurd rfl e, fun e => (by cases e), fun _ => rfl, fun _ => ⟨Nat.zero_le _, rfl⟩, fun e => (by cases e)⟩
theorem As.Kd.raw (b : List UInt8) : As.Kd (As.raw b) := ⟨fun _ => rfl, fun e => absurd rfl e, fun e => (by cases e), fun _ => rfl, fun e => (by cases e), fun _ => .inl rfl⟩
theorem As.Kx.code {x : As.L} (h : As.Kx x) (i : Is.Inst) : As.Kx (As.code i x) := h.put fun _ => As.Kd.code0 i
theorem As.Kx.raw {x : As.L} (h : As.Kx x) (b : List UInt8) : As.Kx (As.put (As.raw b) x) := h.put fun _ => As.Kd.raw b
theorem As.Kd.goal (i : Is.Inst) (s : List UInt8) : As.Kd ⟨true, i, [], if s = [] then 0 else 1, s, []⟩ := by
  by_cases h : s = []
  · subst h; rw [if_pos rfl]; exact As.Kd.code0 i
  · rw [if_neg h]; exact ⟨fun e => (by cases e), fun _ => h, fun e => (by cases e), fun _ => rfl, fun _ => ⟨by show 1 ≤ 3; omega, rfl⟩, fun e => (by cases e)⟩
theorem As.Kx.to {x : As.L} (h : As.Kx x) (i : Is.Inst) : As.Kx (As.to i x) := h.either.put fun _ => As.Kd.goal _ _
theorem As.inst_kx (op : Int) {x : As.L} (h : As.Kx x) : As.Kx (As.inst op x) := by
  unfold As.inst
  (repeat' split) <;> first
    | exact h.reg.reg.num.code _
    | exact h.reg.num.reg.code _
    | exact h.reg.reg.reg.code _
    | exact h.reg.num.code _
    | exact h.num.code _
    | exact h.code _
    | exact h.reg.reg.to _
    | exact h.reg.to _
theorem As.number_kx (d n : Int) {x : As.L} (h : As.Kx x) : As.Kx (As.number d n x) := by
  unfold As.number
  split
  · exact h.code _
  · exact (h.code _).code _
theorem As.Kd.part {k : Nat} (hk : k = 2 ∨ k = 3) (i : Is.Inst) {s : List UInt8} (hs : s ≠ []) : As.Kd ⟨true, i, [], k, s, []⟩ :=
  ⟨fun e => (by have e : k = 0 := e; omega), fun _ => hs, fun e => (by have e : k = 5 := e; omega), fun _ => rfl, fun _ => ⟨by show k ≤ 3; omega, rfl⟩, fun e => (by cases e)⟩
theorem As.pseudo_kx (w : List UInt8) {x y : As.L} (h : As.Kx x) (e : As.pseudo w x = some y) : As.Kx y := by
  unfold As.pseudo at e
  (repeat' split at e) <;> first
    | (injection e with e; subst e; first
        | exact As.number_kx _ _ h.reg.num
        | exact (h.reg.name.put fun ho => As.Kd.part (.inl rfl) _ (As.name_ne ho)).put fun ho => As.Kd.part (.inr rfl) _ (As.name_ne ho)
        | exact h.reg.reg.code _
        | exact h.reg.to _
        | exact h.code _
        | exact h.to _)
    | cases e
theorem As.word1_kx {x : As.L} (h : As.Kx x) : As.Kx (As.word1 x) := h.either.put fun _ => by
  by_cases hs : (As.either x).1.2 = []
  · rw [hs, if_pos rfl]; exact As.Kd.raw _
  · rw [if_neg hs]; exact ⟨fun e => (by cases e), fun _ => hs, fun e => (by cases e), fun _ => rfl, fun e => (by cases e), fun _ => .inr (.inl rfl)⟩
theorem As.byte1_kx {x : As.L} (h : As.Kx x) : As.Kx (As.byte1 x) := (h.num.sat _).raw _
theorem As.loop_kx {f : As.L → As.L} (hf : ∀ {x : As.L}, As.Kx x → As.Kx (f x)) : ∀ (n : Nat) {x : As.L}, As.Kx x → As.Kx (As.loop f n x)
  | 0, x, h => h
  | n + 1, x, h => by
    unfold As.loop
    split
    · exact hf h
    · exact As.loop_kx hf n (hf h)
theorem As.data_kx (w : List UInt8) (a : Nat) {x y : As.L} (h : As.Kx x) (e : As.data w a x = some y) : As.Kx y := by
  unfold As.data at e
  split at e
  · injection e with e; subst e; exact As.loop_kx As.word1_kx _ h
  split at e
  · injection e with e; subst e; exact As.loop_kx As.byte1_kx _ h
  split at e
  · injection e with e; subst e
    split
    · exact (h.next.sat _).raw _
    · exact h.next.sat _
  split at e
  · injection e with e; subst e
    split
    · exact (h.num.sat _).raw _
    · exact h.num.sat _
  split at e
  · injection e with e; subst e
    exact h.raw _
  split at e
  · injection e with e; subst e
    exact h.name.name.put fun ho => ⟨fun e => (by cases e), fun _ => As.name_ne ho, fun _ => As.name_ne (As.name_ok2 ho), fun e => absurd rfl e, fun e => (by cases e), fun _ => .inr (.inr rfl)⟩
  · cases e
theorem As.pieces_kd {l : L6.Line} {a : Nat} {p : List As.P} (e : As.pieces l a = some p) : ∀ q ∈ p, As.Kd q := by
  have h0 : As.Kx ⟨l.args, true, []⟩ := fun _ q hq => by cases hq
  unfold As.pieces at e
  split at e
  · injection e with e; subst e; exact fun q hq => by cases hq
  · split at e
    · cases e
    · rename_i y hy
      have hk : As.Kx y := by
        unfold As.read at hy
        split at hy
        · injection hy with hy; subst hy; exact As.inst_kx _ h0
        · split at hy
          · rename_i z hz
            injection hy with hy; subst hy; exact As.pseudo_kx _ h0 hz
          · exact As.data_kx _ _ h0 hy
      unfold As.done at e
      split at e
      · rename_i hd
        injection e with e
        subst e
        exact hk hd.1
      · cases e
theorem As.rpieces_kd {l : L6.Line} {a : Nat} {p : List As.P} (e : As.rpieces l a = some p) : ∀ q ∈ p, As.Kd q := by
  unfold As.rpieces at e
  cases hp : As.pieces l a with
  | none => rw [hp] at e; cases e
  | some r =>
    rw [hp] at e
    dsimp only at e
    injection e with e
    subst e
    split
    · exact As.pieces_kd hp
    · unfold As.join
      split
      · exact fun q hq => by rw [List.mem_singleton.1 hq]; exact As.Kd.raw _
      · exact As.pieces_kd hp
/-- The document's first pass. -/
def As.rfirst (at_ : Nat) : Nat → Nat → List (List UInt8 × Nat) → List L6.Line → As.R (List (List UInt8 × Nat))
  | _, _, sy, [] => .ok sy
  | i, here, sy, l :: r =>
    match As.labels (As.at32 (at_ + here)) l.labels sy with
    | none => .bad (i + 1) 42
    | some sy1 => match As.rpieces l (As.at32 (at_ + here)) with
      | none => .bad (i + 1) 40
      | some p =>
        if As.lead p = true ∧ As.at32 (at_ + here) % 4 ≠ 0 then .bad (i + 1) 30
        else if 131072 < here + As.size p then .bad (i + 1) 6
        else As.rfirst at_ (i + 1) (here + As.size p) sy1 r
theorem As.rfirst_eq (a : Nat) : ∀ (l : List L6.Line) (i here : Nat) (sy : List (List UInt8 × Nat)), As.rfirst a i here sy l = As.first a i here sy l
  | [], _, _, _ => rfl
  | x :: r, i, here, sy => by
    unfold As.rfirst As.first
    cases As.labels (As.at32 (a + here)) x.labels sy with
    | none => rfl
    | some sy1 =>
      dsimp only
      obtain ⟨h1, h2⟩ := As.rpieces_of (l := x) (a := As.at32 (a + here))
      cases hp : As.pieces x (As.at32 (a + here)) with
      | none =>
        rw [hp] at h1
        cases hr : As.rpieces x (As.at32 (a + here)) with
        | none => rfl
        | some q => rw [hr] at h1; cases h1
      | some p =>
        obtain ⟨q, e1, e2, e3, _⟩ := h2 p hp
        rw [e1]
        dsimp only
        rw [e2, e3, As.rfirst_eq a r (i + 1) (here + As.size p) sy1]
/-- The document's second pass. -/
def As.rsecond (sy : List (List UInt8 × Nat)) (at_ : Nat) : Nat → List UInt8 → List L6.Line → As.R (List UInt8)
  | _, b, [] => .ok b
  | i, b, l :: r =>
    if (As.puts sy at_ ((As.rpieces l (As.at32 (at_ + b.length))).getD []) b).2 = 0 then As.rsecond sy at_ (i + 1) (As.puts sy at_ ((As.rpieces l (As.at32 (at_ + b.length))).getD []) b).1 r
    else .bad (i + 1) (As.puts sy at_ ((As.rpieces l (As.at32 (at_ + b.length))).getD []) b).2
theorem As.rsecond_eq (sy : List (List UInt8 × Nat)) (a : Nat) : ∀ (l : List L6.Line) (i : Nat) (b : List UInt8), As.rsecond sy a i b l = As.second sy a i b l
  | [], _, _ => rfl
  | x :: r, i, b => by
    have key : As.puts sy a ((As.rpieces x (As.at32 (a + b.length))).getD []) b = As.puts sy a ((As.pieces x (As.at32 (a + b.length))).getD []) b := by
      obtain ⟨h1, h2⟩ := As.rpieces_of (l := x) (a := As.at32 (a + b.length))
      cases hp : As.pieces x (As.at32 (a + b.length)) with
      | none =>
        rw [hp] at h1
        cases hr : As.rpieces x (As.at32 (a + b.length)) with
        | none => rfl
        | some q => rw [hr] at h1; cases h1
      | some p =>
        obtain ⟨q, e1, _, _, e4⟩ := h2 p hp
        rw [e1]
        exact e4 _ _ _
    unfold As.rsecond As.second
    rw [key]
    split
    · exact As.rsecond_eq sy a r (i + 1) _
    · rfl
/-- The document's answer. -/
def As.rassemble (l : List L6.Line) (at_ : Nat) : As.O :=
  if 32768 < l.length ∨ at_ % 4 ≠ 0 then ⟨[], [], 0, 6⟩ else match As.rfirst at_ 0 0 [] l with
  | .bad n e => ⟨[], [], n, e⟩
  | .ok sy => match As.rsecond sy at_ 0 [] l with
    | .bad n e => ⟨[], [], n, e⟩
    | .ok b => ⟨b, sy, 0, 0⟩
theorem As.rassemble_eq (l : List L6.Line) (a : Nat) : As.rassemble l a = As.assemble l a := by
  unfold As.rassemble As.assemble As.passes
  split
  · rfl
  · rw [As.rfirst_eq]
    cases As.first a 0 0 [] l with
    | bad n e => rfl
    | ok sy =>
      dsimp only
      rw [As.rsecond_eq]
      cases As.second sy a 0 [] l <;> rfl
/-- The document's word: of a piece at a place. -/
def As.rword (sy : List (List UInt8 × Nat)) (p : As.P) (at_ : Nat) : List UInt8 × Nat :=
  if (p.name ≠ [] ∧ As.look sy p.name = none) ∨ (p.src ≠ [] ∧ As.look sy p.src = none) then ([], 41)
  else if p.code = false then
    (if p.src ≠ [] then (As.four (As.bits (((As.look sy p.name).getD 0 : Int) - ((As.look sy p.src).getD 0 : Int))), 0) else if p.name ≠ [] then (As.four ((As.look sy p.name).getD 0), 0) else (p.bytes, 0))
  else if (Is.enc (As.aim p ((As.look sy p.name).getD 0) at_).1).2 = 0 then (As.four (Is.enc (As.aim p ((As.look sy p.name).getD 0) at_).1).1.toNat, 0)
  else ([], if p.kind = 1 then 43 else 20)
theorem As.rword_eq (sy : List (List UInt8 × Nat)) (p : As.P) (a : Nat) (h : As.Kd p) : As.rword sy p a = As.piece sy p a := by
  obtain ⟨code, inst, bytes, kind, name, src⟩ := p
  obtain ⟨h1, h2, h3, h4, h5, h6⟩ := h
  dsimp only at h1 h2 h3 h4 h5 h6
  have ha : ∀ v, (As.aim ⟨code, inst, bytes, kind, name, src⟩ v a).2 = if kind = 1 then 43 else 20 := fun v => by
    unfold As.aim
    by_cases k1 : kind = 1
    · simp [k1]
    · by_cases k2 : kind = 2
      · simp [k2]
      · by_cases k3 : kind = 3 <;> simp [k1, k2, k3]
  unfold As.rword As.piece
  dsimp only
  rw [ha]
  by_cases k0 : kind = 0
  · subst k0
    have hn := h1 rfl
    have hs := h4 (by decide)
    subst hn hs
    cases code <;> simp
  · have hn := h2 k0
    by_cases k5 : kind = 5
    · subst k5
      have hs := h3 rfl
      cases code
      · cases hl : As.look sy name <;> cases hl2 : As.look sy src <;> simp [hn, hs, hl, hl2]
      · exact absurd (h5 rfl).1 (by decide)
    · have hs := h4 k5
      subst hs
      cases code
      · have k4 : kind = 4 := by have := h6 rfl; omega
        subst k4
        cases hl : As.look sy name <;> simp [hn, hl]
      · have k4 : kind ≠ 4 := fun e => by have := (h5 rfl).1; omega
        cases hl : As.look sy name <;> simp [hn, hl, k0, k4, k5]
end Go.Proofs.YtpcpaoeajcjoiaaGreatDoor
/- Layer 7: the document's size of pieces; a symbol is found. -/
namespace Go.Proofs.YtpcpaoeajcjoiaaGreatDoor
open Go.RowKit Kit
set_option linter.unusedVariables false
set_option linter.unusedSimpArgs false

theorem arst : RowTy Tryz.prog 35 117 2 24 :=
  ⟨Tryz.underlying35, by
    have h : (Tryz.prog.info? 117).map (fun i => (i.zero, i.size, i.bytes)) = some (some (.agg #[.string ByteArray.empty, .int .u32 0]), 2, 24) := by kernel_rfl
    obtain ⟨i, h1, h2, h3, h4⟩ := info_parts h
    exact ⟨i, _, h1, h2, h3, h4, by kernel_rfl⟩⟩
theorem As.symC_at : ∀ {sy : List (List UInt8 × Nat)} {k : Nat} (hk : k < sy.length), (As.symC sy)[k * 2]? = some (.string ⟨sy[k].1.toArray⟩) ∧ (As.symC sy)[k * 2 + 1]? = some (.int .u32 (sy[k].2 : Int))
  | [], k, hk => by simp at hk
  | p :: t, 0, _ => ⟨rfl, rfl⟩
  | p :: t, k + 1, hk => by
    have h := As.symC_at (sy := t) (k := k) (by simpa using hk)
    have e : As.symC (p :: t) = [.string ⟨p.1.toArray⟩, .int .u32 (p.2 : Int)] ++ As.symC t := rfl
    rw [e, List.getElem?_append_right (by simp; omega), List.getElem?_append_right (by simp; omega)]
    simp only [List.length_cons, List.length_nil, List.getElem_cons_succ]
    rw [show (k + 1) * 2 - (0 + 1 + 1) = k * 2 by omega, show (k + 1) * 2 + 1 - (0 + 1 + 1) = k * 2 + 1 by omega]
    exact h
theorem As.symC_rd {W : World} {v : Value} {sy : List (List UInt8 × Nat)} (h : Rd W 2 v sy.length (As.symC sy)) {k : Nat} (hk : k < sy.length) :
    ∃ g off c, v = .slice (some ⟨g, off, none⟩) sy.length c ∧ g < W.heap.size ∧ W.cell? ⟨g, off + k * 2, none⟩ = some (.string ⟨sy[k].1.toArray⟩) ∧ W.cell? ⟨g, off + k * 2 + 1, none⟩ = some (.int .u32 (sy[k].2 : Int)) := by
  obtain ⟨_, A, c, rfl, h2, h3, h4⟩ := h
  obtain ⟨g, off, rfl, hg, hc⟩ := h4 (by omega)
  obtain ⟨q1, q2⟩ := As.symC_at hk
  exact ⟨g, off, c, rfl, hg, hc _ _ q1, hc _ _ q2⟩
theorem As.look_cons (p : List UInt8 × Nat) (t : List (List UInt8 × Nat)) (s : List UInt8) : As.look (p :: t) s = if p.1 = s then some p.2 else As.look t s := by
  unfold As.look
  rw [List.find?_cons]
  by_cases h : p.1 = s
  · have : (p.1 == s) = true := by simpa using h
    rw [this, if_pos h]; rfl
  · have : (p.1 == s) = false := by simpa using h
    rw [this, if_neg h]
set_option maxRecDepth 100000 in
set_option maxHeartbeats 4000000 in
theorem rfind_any (v : Value) (sy : List (List UInt8 × Nat)) (s : List UInt8) (w : World) (h : Rd w 2 v sy.length (As.symC sy)) (hn : sy.length ≤ 5000000000) :
    Calls Tryz.prog 87 #[v, .string ⟨s.toArray⟩] w fun e w' => e = .returned (.tuple #[.int .u32 (((As.look sy s).getD 0 : Nat) : Int), .bool (As.look sy s).isSome]) ∧ Below w.heap.size w w' := by
  have HH := Lib.hid h
  have HL := Lib.hid hn
  obtain ⟨A, c, rfl⟩ := h.form
  clear h hn
  go_enter Tryz.func87, Tryz.ntmps87
  go_wp2_with fail
  go_loopw [6] (fun i wr => ∃ k : Nat, i = .int .i64 (k : Int) ∧ k ≤ sy.length ∧ As.look sy s = As.look (sy.drop k) s ∧ Below w.heap.size w wr) (fun i _ => sy.length - (intOf i).toNat)
  case atStart => exact ⟨0, rfl, Nat.zero_le _, rfl, Below.refl _ _⟩
  case round =>
    obtain ⟨k, rfl, hk, hlo, hbr⟩ := hrel
    have HLO := Lib.hid hlo
    have HBR := Lib.hid hbr
    clear hlo hbr
    by_cases hlt : k < sy.length
    · have hlt' : (k : Int) < (sy.length : Int) := by omega
      have hw1 : IntKind.i64.wrap ((k : Int) + 1) = (k : Int) + 1 := by have := HL.out; rw [IntKind.wrap_i64]; omega
      obtain ⟨g, off, c', e, hg, q0, q1⟩ := As.symC_rd HH.out hlt
      injection e with e1 e2 e3
      subst e1 e3
      have HST := Lib.hid (show As.look (sy.drop k) s = if sy[k].1 = s then some sy[k].2 else As.look (sy.drop (k + 1)) s from by rw [List.drop_eq_getElem_cons hlt, As.look_cons])
      have HLT := Lib.hid (show k + 1 ≤ sy.length from hlt)
      have p0 := (HBR.out.cell (p := ⟨g, off + k * 2, none⟩) hg).trans q0
      have p1 := (HBR.out.cell (p := ⟨g, off + k * 2 + 1, none⟩) hg).trans q1
      clear q0 q1
      generalize sy[k] = P at *
      obtain ⟨nm, u⟩ := P
      dsimp only at p0 p1 HST
      by_cases he : nm = s
      · have hb : (nm == s) = true := by simpa using he
        have HV := Lib.hid (show As.look sy s = some u from by rw [HLO.out, HST.out, if_pos he])
        clear he
        go_wp2_with fail
        go_ret2
        exact ⟨by rw [HV.out]; rfl, HBR.out⟩
      · have hb : (nm == s) = false := by simpa using he
        have hb2 : (!nm == s) = true := by rw [hb]; rfl
        have HV := Lib.hid (show As.look sy s = As.look (sy.drop (k + 1)) s from by rw [HLO.out, HST.out, if_neg he])
        clear he
        go_wp2_with fail
        go_roundw
        case rel => exact ⟨k + 1, by simp, HLT.out, HV.out, HBR.out⟩
        case measure => have := HLT.out; simp [intOf]; omega
    · obtain rfl : k = sy.length := by omega
      have HV := Lib.hid (show As.look sy s = none from by rw [HLO.out, List.drop_length]; rfl)
      go_wp2_with fail
      go_ret2
      exact ⟨by rw [HV.out]; rfl, HBR.out⟩
/-- The k-th piece of the document. -/
theorem As.RdQ.at {B : Nat} {W : World} {v : Value} {ps : List As.P} (h : As.RdQ B W v ps) {k : Nat} (hk : k < ps.length) :
    ∃ g off c vb, v = .slice (some ⟨g, off, none⟩) ps.length c ∧ g < W.heap.size ∧ B ≤ g ∧ (∀ i, i < 12 → W.cell? ⟨g, off + k * 12 + i, none⟩ = (As.rcells ps[k] vb)[i]?) ∧ As.RdB1 B W vb ps[k].bytes := by
  obtain ⟨cs, ⟨hl, A, c, rfl, h2, h3, h4⟩, hB, hp⟩ := h
  obtain ⟨g, off, rfl, hg, hc⟩ := h4 (by omega)
  obtain ⟨vb, q1, q2⟩ := hp.at hk
  refine ⟨g, off, c, vb, rfl, hg, hB g off _ c rfl (by omega), fun i hi => ?_, q1⟩
  have hq := q2 i hi
  cases hu : (As.rcells ps[k] vb)[i]? with
  | none =>
    rw [List.getElem?_eq_none_iff] at hu
    simp only [As.rcells, List.length_cons, List.length_nil] at hu
    omega
  | some u =>
    rw [hu] at hq
    have := hc (k * 12 + i) u hq
    rwa [← Nat.add_assoc] at this
set_option maxRecDepth 100000 in
set_option maxHeartbeats 4000000 in
theorem rsize_any {B : Nat} (v : Value) (ps : List As.P) (w : World) (h : As.RdQ B w v ps) (hok : As.OkL ps) (hn : ps.length ≤ 2000000000) :
    Calls Tryz.prog 88 #[v] w fun e w' => e = .returned (.int .i64 ((As.size ps : Nat) : Int)) ∧ Below w.heap.size w w' := by
  have HH := Lib.hid h
  have HOK := Lib.hid hok
  have HLL := Lib.hid hn
  obtain ⟨A, c, rfl⟩ := h.form
  clear h hok hn
  go_enter Tryz.func88, Tryz.ntmps88
  go_wp2_with fail
  go_loopw [3, 4] (fun acc i wr => ∃ k : Nat, acc = .int .i64 ((As.size (ps.take k) : Nat) : Int) ∧ i = .int .i64 (k : Int) ∧ k ≤ ps.length ∧ Below w.heap.size w wr) (fun _ i _ => ps.length - (intOf i).toNat)
  case atStart => exact ⟨0, rfl, rfl, Nat.zero_le _, Below.refl _ _⟩
  case round =>
    obtain ⟨k, rfl, rfl, hk, hbr⟩ := hrel
    have HBR := Lib.hid hbr
    clear hbr
    by_cases hlt : k < ps.length
    · have hlt' : (k : Int) < (ps.length : Int) := by omega
      have hw1 : IntKind.i64.wrap ((k : Int) + 1) = (k : Int) + 1 := by have := HLL.out; rw [IntKind.wrap_i64]; omega
      obtain ⟨g, off, c', vb, e, hg, _, hc, hr⟩ := HH.out.at hlt
      injection e with e1 e2 e3
      subst e1 e3
      have HLT := Lib.hid (show k + 1 ≤ ps.length from hlt)
      have hsz := As.size_le (HOK.out.take k)
      have hb := (HOK.out _ (List.getElem_mem hlt)).bytes
      have HST := Lib.hid (As.size_take hlt)
      have hkl : (ps.take k).length ≤ 2000000000 := by have := HLL.out; rw [List.length_take]; omega
      have hS : As.size (ps.take k) ≤ 4000000008000000000 := Nat.le_trans hsz (Nat.le_trans (Nat.mul_le_mul_right _ hkl) (by decide))
      have HC := Lib.hid (fun i (hi : i < 12) => (HBR.out.cell (p := ⟨g, off + k * 12 + i, none⟩) hg).trans (hc i hi))
      clear hc hsz hkl
      generalize As.size (ps.take k) = S at *
      generalize ps[k] = p at *
      obtain ⟨pc, pi, pb, pk, pn, pf⟩ := p
      obtain ⟨BB, cb, rfl⟩ := hr.1.form
      dsimp only at hb
      have q10 := HC.out 10 (by decide)
      have q11 := HC.out 11 (by decide)
      simp only [As.rcells, List.getElem?_cons_zero, List.getElem?_cons_succ] at q10 q11
      have hw2 : IntKind.i64.wrap ((S : Int) + (pb.length : Int)) = (S : Int) + (pb.length : Int) := by rw [IntKind.wrap_i64]; omega
      have hw3 : IntKind.i64.wrap ((S : Int) + (pb.length : Int) + 4) = (S : Int) + (pb.length : Int) + 4 := by rw [IntKind.wrap_i64]; omega
      clear hr
      cases pc
      · go_wp2_with fail
        go_roundw
        case rel => exact ⟨k + 1, by rw [HST.out]; simp [As.size1], by simp, HLT.out, HBR.out⟩
        case measure => have := HLT.out; simp [intOf]; omega
      · go_wp2_with fail
        go_roundw
        case rel => exact ⟨k + 1, by rw [HST.out]; simp [As.size1]; omega, by simp, HLT.out, HBR.out⟩
        case measure => have := HLT.out; simp [intOf]; omega
    · obtain rfl : k = ps.length := by omega
      rw [List.take_length]
      go_wp2_with fail
      go_ret
      exact ⟨rfl, HBR.out⟩
theorem As.loop_raws1 : ∀ (n : Nat) {x : As.L}, As.Raws1 x.p → As.Raws1 (As.loop As.byte1 n x).p
  | 0, x, h => h
  | n + 1, x, h => by
    have h1 : As.Raws1 (As.byte1 x).p := by
      intro p hp
      unfold As.byte1 As.put As.sat at hp
      dsimp only at hp
      rw [As.num_p] at hp
      rcases List.mem_append.1 hp with hp | hp
      · exact h p hp
      · exact ⟨_, List.mem_singleton.1 hp⟩
    unfold As.loop
    split
    · exact h1
    · exact As.loop_raws1 n h1
theorem As.byte_raws1 {l : L6.Line} {a : Nat} {p : List As.P} (hw : l.word = As.tByte) (h : As.pieces l a = some p) : As.Raws1 p := by
  unfold As.pieces at h
  rw [hw, if_neg (by decide)] at h
  unfold As.read at h
  rw [if_neg (by rw [As.byte_name]; decide), As.byte_pseudo] at h
  dsimp only at h
  unfold As.data at h
  rw [if_neg (by decide), if_pos rfl] at h
  dsimp only at h
  unfold As.done at h
  split at h
  · injection h with h
    subst h
    exact As.loop_raws1 _ (fun q hq => by cases hq)
  · cases h
theorem As.rpieces_ok {l : L6.Line} {a : Nat} {p : List As.P} (hl : As.Lo l.args) (hn : l.args.length ≤ 1000000) (e : As.rpieces l a = some p) : As.OkL p ∧ p.length ≤ l.args.length + 2 := by
  unfold As.rpieces at e
  cases hp : As.pieces l a with
  | none => rw [hp] at e; cases e
  | some r =>
    rw [hp] at e
    dsimp only at e
    injection e with e
    subst e
    have h1 := As.pieces_ok hl hp
    have h2 := As.pieces_cnt hp
    split
    · exact ⟨h1, h2⟩
    · unfold As.join
      split
      · rename_i hw
        have hr := (As.byte_raws1 hw hp).len
        refine ⟨fun q hq => ?_, by simp⟩
        rw [List.mem_singleton.1 hq]
        refine As.Ok.data ?_ _ (Nat.zero_le _) (Nat.zero_le _)
        show (As.allB r).length ≤ 2000000000
        rw [hr]
        omega
      · exact ⟨h1, h2⟩
end Go.Proofs.YtpcpaoeajcjoiaaGreatDoor
/- Layer 7: the document's first pass. -/
namespace Go.Proofs.YtpcpaoeajcjoiaaGreatDoor
open Go.RowKit Kit
set_option linter.unusedVariables false
set_option linter.unusedSimpArgs false

/-- What the document's First hands back. -/
def As.RFirstPost (w : World) (r : As.R (List (List UInt8 × Nat))) (e : Ending) (w' : World) : Prop :=
  match r with
  | .bad n er => e = .returned (.tuple #[.slice none 0 0, .int .i64 (n : Int), .int .i64 (er : Int)]) ∧ Below w.heap.size w w'
  | .ok sy => ∃ v, e = .returned (.tuple #[v, .int .i64 0, .int .i64 0]) ∧ w'.ownsRow w.heap.size 117 2 v sy.length (As.symC sy) ∧ Below w.heap.size w w'
theorem As.RFirstPost.bad {w w' : World} {r : As.R (List (List UInt8 × Nat))} {n er : Nat} {i j : Int} (h : r = .bad n er) (hi : i = n) (hj : j = er) (hb : Below w.heap.size w w') : As.RFirstPost w r (.returned (.tuple #[.slice none 0 0, .int .i64 i, .int .i64 j])) w' := by
  subst h hi hj
  exact ⟨rfl, hb⟩
/-- What a line of the document may hold here. -/
structure As.RLOk (x : L6.Line) : Prop where
  l : As.LOk x
  w : x.word.length ≤ 1000000000
theorem As.src_sym (W : World) (s : List UInt8) (T : Int) (N : Nat) (hN : N = W.heap.size) : Src Tryz.prog 2 35 (.slice (some ⟨N, 0, none⟩) 1 1) 1 [.string ⟨s.toArray⟩, .int .u32 T] (W.alloc (.cells #[.string ⟨s.toArray⟩, .int .u32 T] 117)) := by
  subst hN
  have hbk := Bk.fresh W 117 #[.string ⟨s.toArray⟩, .int .u32 T]
  refine Rd.src arst ⟨rfl, some ⟨W.heap.size, 0, none⟩, 1, rfl, Nat.le_refl _, by unfold maxLen; omega, fun _ => ⟨_, 0, rfl, hbk.lt, fun j v hv => ?_⟩⟩ (fun v hv => by
    simp only [List.mem_cons, List.not_mem_nil, or_false] at hv
    rcases hv with rfl | rfl <;> rfl)
  rw [Nat.zero_add, hbk.cell j]
  simpa using hv
theorem As.wrap_top {a : Nat} {MX : Int} (ha : a < 4294967296) (h : (a : Int) + 131072 = MX) : IntKind.i64.wrap ((a : Int) + 131072) = MX := by rw [IntKind.wrap_i64]; omega
set_option maxRecDepth 100000 in
set_option maxHeartbeats 16000000 in
theorem rfirst_any {w : World} {vl : Value} {ls : List L6.Line} {a : Nat} (hL : RdL w vl ls) (hls : ls.length ≤ 1000000000) (hx : ∀ x ∈ ls, As.RLOk x) (ha : a < 4294967296) :
    Calls Tryz.prog 47 #[vl, .int .u32 (a : Int)] w (As.RFirstPost w (if 32768 < ls.length ∨ a % 4 ≠ 0 then .bad 0 6 else As.rfirst a 0 0 [] ls)) := by
  have HL := Lib.hid hL
  have HX := Lib.hid hx
  obtain ⟨A, c, rfl⟩ := hL.form
  have hrem : Int.tmod (a : Int) 4 = ((a % 4 : Nat) : Int) := by rw [Int.tmod_eq_emod_of_nonneg (by omega)]; omega
  have hrem' : (a : Int) % 4 = ((a % 4 : Nat) : Int) := by omega
  by_cases hn : 32768 < ls.length
  · have HV := Lib.hid (show (if 32768 < ls.length ∨ a % 4 ≠ 0 then (.bad 0 6 : As.R (List (List UInt8 × Nat))) else As.rfirst a 0 0 [] ls) = .bad 0 6 from if_pos (.inl hn))
    have hn' : (32768 : Int) < (ls.length : Int) := by omega
    rw [HV.out]
    clear hL hx hn HV
    go_enter Tryz.func47, Tryz.ntmps47
    go_wp2_with fail
    go_ret3
    exact ⟨rfl, Below.refl _ _⟩
  have hn' : ¬ (32768 : Int) < (ls.length : Int) := by omega
  by_cases hm : a % 4 = 0
  rotate_left
  · have HV := Lib.hid (show (if 32768 < ls.length ∨ a % 4 ≠ 0 then (.bad 0 6 : As.R (List (List UInt8 × Nat))) else As.rfirst a 0 0 [] ls) = .bad 0 6 from if_pos (.inr hm))
    have hr0 : (((a % 4 : Nat) : Int) != 0) = true := by rw [bne_iff_ne]; omega
    rw [HV.out]
    clear hL hx hn HV hm
    generalize a % 4 = r at *
    go_enter Tryz.func47, Tryz.ntmps47
    go_wp2_with fail
    go_ret3
    exact ⟨rfl, Below.refl _ _⟩
  have HV := Lib.hid (show (if 32768 < ls.length ∨ a % 4 ≠ 0 then (.bad 0 6 : As.R (List (List UInt8 × Nat))) else As.rfirst a 0 0 [] ls) = As.rfirst a 0 0 [] ls from if_neg (by omega))
  rw [HV.out]
  have hr0 : Int.tmod (a : Int) 4 = 0 := by rw [hrem, hm]; rfl
  have hr0' : (a : Int) % 4 = 0 := by rw [hrem', hm]; rfl
  have HA4 := Lib.hid hm
  have HLL := Lib.hid (show ls.length ≤ 32768 from by omega)
  have ha64 : IntKind.i64.wrap (a : Int) = (a : Int) := by rw [IntKind.wrap_i64]; omega
  obtain ⟨MX, hMX⟩ : ∃ MX, (a : Int) + 131072 = MX := ⟨_, rfl⟩
  have HMX := Lib.hid hMX
  have HAA := Lib.hid ha
  clear hMX
  clear hL hx hn HV hm hrem hrem'
  go_enter Tryz.func47, Tryz.ntmps47
  go_wp2_with fail
  go_loopw [7, 8, 9] (fun out pl i wr => ∃ (k here : Nat) (sy : List (List UInt8 × Nat)), pl = .int .i64 ((a : Int) + (here : Int)) ∧ i = .int .i64 (k : Int) ∧ k ≤ ls.length ∧ here ≤ 131072 ∧ sy.length ≤ k * 100000 ∧ As.rfirst a 0 0 [] ls = As.rfirst a k here sy (ls.drop k) ∧ wr.ownsRow w.heap.size 117 2 out sy.length (As.symC sy) ∧ Below w.heap.size w wr) (fun _ _ i _ => ls.length - (intOf i).toNat)
  case atStart => exact ⟨0, 0, [], by simp, rfl, Nat.zero_le _, Nat.zero_le _, Nat.zero_le _, rfl, World.ownsRow_nil _ _ _ _, Below.refl _ _⟩
  case round =>
    obtain ⟨k, here, sy, rfl, rfl, hk, hh, hsl, hfi, ho, hb⟩ := hrel
    have HF := Lib.hid hfi
    have HO := Lib.hid ho
    have HB := Lib.hid hb
    have HSL := Lib.hid hsl
    obtain ⟨A4, c4, rfl⟩ := (Rd.of_own ho).form
    clear hfi ho hb hsl
    by_cases hlt : k < ls.length
    · have hlt' : (k : Int) < (ls.length : Int) := by omega
      have hw1 : IntKind.i64.wrap ((k : Int) + 1) = (k : Int) + 1 := by have := HLL.out; rw [IntKind.wrap_i64]; omega
      have HDR := Lib.hid (show As.rfirst a 0 0 [] ls = As.rfirst a k here sy (ls[k] :: ls.drop (k + 1)) from by rw [HF.out, As.drop_cons hlt])
      have HK := Lib.hid (show k + 1 ≤ 40000 from by have := HLL.out; omega)
      obtain ⟨g, off, c', va1, va2, e, hg, d0, d1, d2, r1, r2⟩ := HL.out.at hlt
      injection e with e1 e2 e3
      subst e1 e3
      have HLT := Lib.hid (show k + 1 ≤ ls.length from hlt)
      have HXK := Lib.hid (HX.out _ (List.getElem_mem hlt))
      generalize ls[k] = X at *
      obtain ⟨xl, xw, xa⟩ := X
      obtain ⟨B1, cc1, rfl⟩ := r1.form
      obtain ⟨B2, cc2, rfl⟩ := r2.form
      dsimp only at d0 d1 d2 r1 r2
      have HQ := Lib.hid (show ∀ W, Below w.heap.size w W → W.cell? ⟨g, off + k * 3, none⟩ = some (.slice B1 xl.length cc1) ∧ W.cell? ⟨g, off + k * 3 + 1, none⟩ = some (.string ⟨xw.toArray⟩) ∧ W.cell? ⟨g, off + k * 3 + 2, none⟩ = some (.slice B2 xa.length cc2) from fun W hW => ⟨(hW.cell (p := ⟨g, _, none⟩) hg).trans d0, (hW.cell (p := ⟨g, _, none⟩) hg).trans d1, (hW.cell (p := ⟨g, _, none⟩) hg).trans d2⟩)
      have HR1 := Lib.hid r1
      have HR2 := Lib.hid r2
      have h32 : IntKind.u32.wrap ((a : Int) + (here : Int)) = ((As.at32 (a + here) : Nat) : Int) := by unfold As.at32; rw [IntKind.wrap_u32]; omega
      have h32' : ((a : Int) + (here : Int)) % 4294967296 = ((As.at32 (a + here) : Nat) : Int) := by unfold As.at32; omega
      have HT32 := Lib.hid (show As.at32 (a + here) < 4294967296 from by unfold As.at32; omega)
      have HT4 := Lib.hid (show As.at32 (a + here) % 4 = (a + here) % 4 from by unfold As.at32; omega)
      have HFU := Lib.hid (show As.rfirst a k here sy (⟨xl, xw, xa⟩ :: ls.drop (k + 1)) = (match As.labels (As.at32 (a + here)) xl sy with
        | none => .bad (k + 1) 42
        | some sy1 => match As.rpieces ⟨xl, xw, xa⟩ (As.at32 (a + here)) with
          | none => .bad (k + 1) 40
          | some p => if As.lead p = true ∧ As.at32 (a + here) % 4 ≠ 0 then .bad (k + 1) 30 else if 131072 < here + As.size p then .bad (k + 1) 6 else As.rfirst a (k + 1) (here + As.size p) sy1 (ls.drop (k + 1))) from rfl)
      have HH := Lib.hid hh
      clear d0 d1 d2 r1 r2 hlt hk hh hls hn' hr0 hr0'
      generalize As.at32 (a + here) = T at *
      go_wp2_with fail
      go_loopw [7, 10] (fun out j wr => ∃ (m : Nat) (sy1 : List (List UInt8 × Nat)), j = .int .i64 (m : Int) ∧ m ≤ xl.length ∧ sy1.length ≤ sy.length + m ∧ As.labels T xl sy = As.labels T (xl.drop m) sy1 ∧ wr.ownsRow w.heap.size 117 2 out sy1.length (As.symC sy1) ∧ Below w.heap.size w wr) (fun _ j _ => xl.length - (intOf j).toNat)
      case atStart => exact ⟨0, sy, rfl, Nat.zero_le _, Nat.le_refl _, rfl, HO.out, HB.out⟩
      case round =>
        obtain ⟨m, sy1, rfl, hm, hsl1, hla, hos, hb⟩ := hrel
        have HSL1 := Lib.hid hsl1
        have HLA := Lib.hid hla
        have HOS := Lib.hid hos
        have HBY := Lib.hid hb
        obtain ⟨A5, c5, rfl⟩ := (Rd.of_own hos).form
        obtain ⟨y0, y1, y2⟩ := HQ.out wr hb
        clear hsl1 hla hos hb
        by_cases hlm : m < xl.length
        · have hlm' : (m : Int) < (xl.length : Int) := by omega
          have hw2 : IntKind.i64.wrap ((m : Int) + 1) = (m : Int) + 1 := by have := HXK.out.l.ll; dsimp only at this; rw [IntKind.wrap_i64]; omega
          have HLM := Lib.hid (show m + 1 ≤ xl.length from hlm)
          obtain ⟨gl, ol, cl, el, hgl, hcl⟩ := HR1.out.at hlm
          injection el with el1 el2 el3
          subst el1 el3
          have p0 : wr.cell? ⟨gl, ol + m, none⟩ = some (.string ⟨(xl.getD m []).toArray⟩) := (HBY.out.cell (p := ⟨gl, _, none⟩) hgl).trans hcl
          have HDM := Lib.hid (show As.labels T xl sy = As.labels T (xl.getD m [] :: xl.drop (m + 1)) sy1 from by
            have e9 : xl[m] = xl.getD m [] := by rw [List.getD_eq_getElem?_getD, List.getElem?_eq_getElem hlm]; rfl
            rw [HLA.out, As.drop_cons hlm]
            exact congrArg (fun z => As.labels T (z :: xl.drop (m + 1)) sy1) e9)
          have HPL := Lib.hid (show ∀ W, Below w.heap.size w W → W.cell? ⟨gl, ol + m, none⟩ = some (.string ⟨(xl.getD m []).toArray⟩) from fun W hW => (hW.cell (p := ⟨gl, _, none⟩) hgl).trans hcl)
          clear hcl hlm
          generalize xl.getD m [] = s at *
          have HSN := Lib.hid (show sy1.length ≤ 4100000000 from by have h1 := HSL1.out; have h2 := HSL.out; have h3 := HK.out; have h4 := HXK.out.l.ll; dsimp only at h4; omega)
          have CF := Lib.hid (rfind_any (.slice A5 sy1.length c5) sy1 s wr (Rd.of_own HOS.out) (by have := HSN.out; omega))
          cases hlook : As.look sy1 s with
          | some u =>
            rw [hlook] at CF
            simp only [Option.getD_some, Option.isSome_some] at CF
            have HBAD := Lib.hid (show As.rfirst a 0 0 [] ls = .bad (k + 1) 42 from by
              rw [HDR.out, HFU.out, HDM.out]
              unfold As.labels
              rw [if_pos (by rw [As.look_any, hlook]; rfl)])
            clear hlook
            go_wp2_with fail
            go_at_call 87
            refine CF.out.mono ?_
            rintro e w2 ⟨rfl, hb2⟩
            have HB2 := Lib.hid (HBY.out.trans (hb2.mono HBY.out.size))
            clear hb2 y0 y1 y2 p0
            go_wp2_with fail
            go_ret3
            exact As.RFirstPost.bad HBAD.out (by simp) rfl HB2.out
          | none =>
            rw [hlook] at CF
            simp only [Option.getD_none, Option.isSome_none] at CF
            have HNX := Lib.hid (show As.labels T xl sy = As.labels T (xl.drop (m + 1)) (sy1 ++ [(s, T)]) from by
              rw [HDM.out]
              conv => lhs; unfold As.labels
              rw [if_neg (by rw [As.look_any, hlook]; decide)])
            have HSA := Lib.hid (show (sy1.length + 1) * 24 ≤ 140737488355328 ∧ sy1.length + 1 ≤ maxLen from by have := HSN.out; unfold maxLen; omega)
            clear hlook
            go_wp2_with fail
            go_at_call 87
            refine CF.out.mono ?_
            rintro e w2 ⟨rfl, hb2⟩
            have HB2 := Lib.hid (HBY.out.trans (hb2.mono HBY.out.size))
            have HO2 := Lib.hid (own_kept (own_kept HOS.out hb2) ((Below.refl w2.heap.size w2).alloc (Nat.le_refl _) (.cells #[.string ⟨s.toArray⟩, .int .u32 (T : Int)] 117)))
            clear hb2 y0 y1 y2 p0
            obtain ⟨y0, y1, y2⟩ := HQ.out w2 HB2.out
            have p0 := HPL.out w2 HB2.out
            have HS2 := Lib.hid (As.src_sym w2 s (T : Int) w2.heap.size rfl)
            have HBA := Lib.hid (HB2.out.alloc HB2.out.size (.cells #[.string ⟨s.toArray⟩, .int .u32 (T : Int)] 117))
            go_wp2_with (at_builtin; refine wpList_appendRB rfl _ _ _ _ rfl arst (by decide) w.heap.size (.slice A5 sy1.length c5) rfl sy1.length (As.symC sy1) HO2.out _ rfl 1 [.string ⟨s.toArray⟩, .int .u32 (T : Int)] HS2.out HSA.out.1 HSA.out.2 HBA.out.size ?_; intro v3 w3 ho3 hb3 hg3 hv3; obtain ⟨A3, c3, rfl⟩ := (Rd.of_own ho3).form; have HO3 := Lib.hid ho3; have HB3 := Lib.hid (HBA.out.trans hb3); clear ho3 hb3 hg3 hv3)
            go_roundw
            case rel => exact ⟨m + 1, sy1 ++ [(s, T)], by simp, HLM.out, by have := HSL1.out; rw [List.length_append]; simp; omega, HNX.out, by rw [As.symC_snoc, List.length_append]; exact HO3.out, HB3.out⟩
            case measure => have := HLM.out; simp [intOf]; omega
        · obtain rfl : m = xl.length := by omega
          have HLS := Lib.hid (show As.labels T xl sy = some sy1 from by rw [HLA.out, List.drop_length]; rfl)
          have HFV := Lib.hid (show As.rfirst a 0 0 [] ls = (match As.rpieces ⟨xl, xw, xa⟩ T with
            | none => .bad (k + 1) 40
            | some p => if As.lead p = true ∧ T % 4 ≠ 0 then .bad (k + 1) 30 else if 131072 < here + As.size p then .bad (k + 1) 6 else As.rfirst a (k + 1) (here + As.size p) sy1 (ls.drop (k + 1))) from by rw [HDR.out, HFU.out, HLS.out])
          have CP := Lib.hid (rpieces_any (.slice B1 xl.length cc1) (.slice B2 xa.length cc2) ⟨xl, xw, xa⟩ T wr (HR2.out.kept HBY.out) ⟨_, _, _, rfl⟩ (by have := HXK.out.l.al; dsimp only at this ⊢; omega) HXK.out.l.sa (by have := HXK.out.w; dsimp only at this ⊢; unfold maxLen; omega) HT32.out)
          clear HLA hm
          cases hp : As.rpieces ⟨xl, xw, xa⟩ T with
          | none =>
            rw [hp] at CP
            have HBAD := Lib.hid (show As.rfirst a 0 0 [] ls = .bad (k + 1) 40 from by rw [HFV.out, hp])
            clear hp
            go_wp2_with fail
            go_at_call 48
            refine CP.out.mono ?_
            rintro e w5 ⟨rfl, hb5⟩
            have HB5 := Lib.hid (show Below w.heap.size w w5 from HBY.out.trans (hb5.mono HBY.out.size))
            clear hb5 y0 y1 y2
            go_wp2_with fail
            go_ret3
            exact As.RFirstPost.bad HBAD.out (by simp) rfl HB5.out
          | some ps =>
            rw [hp] at CP
            have HFW := Lib.hid (show As.rfirst a 0 0 [] ls = (if As.lead ps = true ∧ T % 4 ≠ 0 then .bad (k + 1) 30 else if 131072 < here + As.size ps then .bad (k + 1) 6 else As.rfirst a (k + 1) (here + As.size ps) sy1 (ls.drop (k + 1))) from by rw [HFV.out, hp])
            have HOK := Lib.hid (As.rpieces_ok HXK.out.l.sa HXK.out.l.al hp)
            have HCN := Lib.hid (show ps.length ≤ 1000002 from by have := HOK.out.2; have h2 := HXK.out.l.al; dsimp only at this h2; omega)
            have HSZ := Lib.hid (show As.size ps ≤ 3000000000000000 from by have h1 := As.size_le HOK.out.1; have h2 := HCN.out; omega)
            clear hp
            go_wp2_with fail
            go_at_call 48
            refine CP.out.mono ?_
            rintro e w5 ⟨v5, rfl, hr5, hb5⟩
            have HB5 := Lib.hid (show Below w.heap.size w w5 from HBY.out.trans (hb5.mono HBY.out.size))
            have HO5 := Lib.hid (own_kept HOS.out hb5)
            have CS := Lib.hid (rsize_any v5 ps w5 hr5 HOK.out.1 (by have := HCN.out; omega))
            have HSY := Lib.hid (show sy1.length ≤ (k + 1) * 100000 from by have h1 := HSL1.out; have h2 := HSL.out; have h4 := HXK.out.l.ll; dsimp only at h4; omega)
            have hadd : IntKind.i64.wrap ((a : Int) + (here : Int) + ((As.size ps : Nat) : Int)) = (a : Int) + ((here + As.size ps : Nat) : Int) := by have := HSZ.out; have := HH.out; rw [IntKind.wrap_i64]; omega
            clear hb5 y0 y1 y2
            cases hps : ps with
            | nil =>
              have HLD := Lib.hid (show ¬ (As.lead ps = true ∧ T % 4 ≠ 0) from fun e => by rw [hps] at e; exact absurd e.1 (by decide))
              obtain ⟨A6, c6, h5⟩ := hr5.form
              have hn0 : (ps.length : Int) = 0 := by rw [hps]; rfl
              clear hr5 hps
              subst h5
              generalize ps.length = np at *
              obtain rfl : np = 0 := by omega
              go_wp2_with fail
              go_at_call 88
              refine CS.out.mono ?_
              rintro e w6 ⟨rfl, hb6⟩
              have HB6 := Lib.hid (show Below w.heap.size w w6 from HB5.out.trans (hb6.mono HB5.out.size))
              have HO6 := Lib.hid (own_kept HO5.out hb6)
              clear hb6
              by_cases hbig : 131072 < here + As.size ps
              · have HBAD := Lib.hid (show As.rfirst a 0 0 [] ls = .bad (k + 1) 6 from by rw [HFW.out, if_neg HLD.out, if_pos hbig])
                have hbig' : MX < (a : Int) + ((here + As.size ps : Nat) : Int) := by have := HMX.out; omega
                generalize (a : Int) + ((here + As.size ps : Nat) : Int) = PL at *
                have hmx := As.wrap_top HAA.out HMX.out
                go_wp2_with fail
                go_ret3
                exact As.RFirstPost.bad HBAD.out (by simp) rfl HB6.out
              · have HGO := Lib.hid (show As.rfirst a 0 0 [] ls = As.rfirst a (k + 1) (here + As.size ps) sy1 (ls.drop (k + 1)) from by rw [HFW.out, if_neg HLD.out, if_neg hbig])
                have hbig' : (a : Int) + ((here + As.size ps : Nat) : Int) ≤ MX := by have := HMX.out; omega
                have HNB := Lib.hid hbig
                obtain ⟨PL, hPL⟩ : ∃ PL, (a : Int) + ((here + As.size ps : Nat) : Int) = PL := ⟨_, rfl⟩
                rw [hPL] at hadd hbig'
                have HPL2 := Lib.hid hPL
                have hmx := As.wrap_top HAA.out HMX.out
                clear hPL hbig
                replace hbig' : decide (MX < PL) = false := by simpa using hbig'
                go_upto_region 7 with fail
                clear hmx
                go_wp2_with fail
                go_roundw
                case rel => exact ⟨k + 1, here + As.size ps, sy1, by rw [HPL2.out], by simp, HLT.out, by have := HNB.out; omega, HSY.out, HGO.out, HO6.out, HB6.out⟩
                case measure => have := HLT.out; simp [intOf]; omega
            | cons p0 pr =>
              obtain ⟨g5, o5, c5', vb5, h5, hx1, hx2, hcs, hx3⟩ := hr5.at (k := 0) (by rw [hps]; simp)
              have z0 := hcs 11 (by decide)
              have hnp : (0 : Int) < (ps.length : Int) := by rw [hps, List.length_cons]; omega
              have hp0 : ps[0]'(by rw [hps]; simp) = p0 := by simp [hps]
              rw [hp0] at z0
              simp only [As.rcells, List.getElem?_cons_zero, List.getElem?_cons_succ, Nat.zero_mul, Nat.add_zero] at z0
              have HLDP := Lib.hid (show As.lead ps = p0.code from by rw [hps]; rfl)
              clear hcs hx1 hx2 hx3 hp0 hr5 hps
              subst h5
              generalize ps.length = np at *
              obtain ⟨pc, pi, pb, pk, pn, pf⟩ := p0
              dsimp only at z0 HLDP
              cases pc
              · have HLD := Lib.hid (show ¬ (As.lead ps = true ∧ T % 4 ≠ 0) from fun e => by rw [HLDP.out] at e; cases e.1)
                go_wp2_with fail
                go_at_call 88
                refine CS.out.mono ?_
                rintro e w6 ⟨rfl, hb6⟩
                have HB6 := Lib.hid (show Below w.heap.size w w6 from HB5.out.trans (hb6.mono HB5.out.size))
                have HO6 := Lib.hid (own_kept HO5.out hb6)
                clear hb6
                by_cases hbig : 131072 < here + As.size ps
                · have HBAD := Lib.hid (show As.rfirst a 0 0 [] ls = .bad (k + 1) 6 from by rw [HFW.out, if_neg HLD.out, if_pos hbig])
                  have hbig' : MX < (a : Int) + ((here + As.size ps : Nat) : Int) := by have := HMX.out; omega
                  generalize (a : Int) + ((here + As.size ps : Nat) : Int) = PL at *
                  have hmx := As.wrap_top HAA.out HMX.out
                  go_wp2_with fail
                  go_ret3
                  exact As.RFirstPost.bad HBAD.out (by simp) rfl HB6.out
                · have HGO := Lib.hid (show As.rfirst a 0 0 [] ls = As.rfirst a (k + 1) (here + As.size ps) sy1 (ls.drop (k + 1)) from by rw [HFW.out, if_neg HLD.out, if_neg hbig])
                  have hbig' : (a : Int) + ((here + As.size ps : Nat) : Int) ≤ MX := by have := HMX.out; omega
                  have HNB := Lib.hid hbig
                  obtain ⟨PL, hPL⟩ : ∃ PL, (a : Int) + ((here + As.size ps : Nat) : Int) = PL := ⟨_, rfl⟩
                  rw [hPL] at hadd hbig'
                  have HPL2 := Lib.hid hPL
                  have hmx := As.wrap_top HAA.out HMX.out
                  clear hPL hbig
                  replace hbig' : decide (MX < PL) = false := by simpa using hbig'
                  go_upto_region 7 with fail
                  clear hmx
                  go_wp2_with fail
                  go_roundw
                  case rel => exact ⟨k + 1, here + As.size ps, sy1, by rw [HPL2.out], by simp, HLT.out, by have := HNB.out; omega, HSY.out, HGO.out, HO6.out, HB6.out⟩
                  case measure => have := HLT.out; simp [intOf]; omega
              · by_cases hal : T % 4 = 0
                · have HLD := Lib.hid (show ¬ (As.lead ps = true ∧ T % 4 ≠ 0) from fun e => e.2 hal)
                  have hrem : Int.tmod ((a : Int) + (here : Int)) 4 = 0 := by have := HT4.out; rw [Int.tmod_eq_emod_of_nonneg (by omega)]; omega
                  have hrem2 : ((a : Int) + (here : Int)) % 4 = 0 := by have := HT4.out; omega
                  go_wp2_with fail
                  go_at_call 88
                  refine CS.out.mono ?_
                  rintro e w6 ⟨rfl, hb6⟩
                  have HB6 := Lib.hid (show Below w.heap.size w w6 from HB5.out.trans (hb6.mono HB5.out.size))
                  have HO6 := Lib.hid (own_kept HO5.out hb6)
                  clear hb6
                  by_cases hbig : 131072 < here + As.size ps
                  · have HBAD := Lib.hid (show As.rfirst a 0 0 [] ls = .bad (k + 1) 6 from by rw [HFW.out, if_neg HLD.out, if_pos hbig])
                    have hbig' : MX < (a : Int) + ((here + As.size ps : Nat) : Int) := by have := HMX.out; omega
                    generalize (a : Int) + ((here + As.size ps : Nat) : Int) = PL at *
                    have hmx := As.wrap_top HAA.out HMX.out
                    go_wp2_with fail
                    go_ret3
                    exact As.RFirstPost.bad HBAD.out (by simp) rfl HB6.out
                  · have HGO := Lib.hid (show As.rfirst a 0 0 [] ls = As.rfirst a (k + 1) (here + As.size ps) sy1 (ls.drop (k + 1)) from by rw [HFW.out, if_neg HLD.out, if_neg hbig])
                    have hbig' : (a : Int) + ((here + As.size ps : Nat) : Int) ≤ MX := by have := HMX.out; omega
                    have HNB := Lib.hid hbig
                    obtain ⟨PL, hPL⟩ : ∃ PL, (a : Int) + ((here + As.size ps : Nat) : Int) = PL := ⟨_, rfl⟩
                    rw [hPL] at hadd hbig'
                    have HPL2 := Lib.hid hPL
                    have hmx := As.wrap_top HAA.out HMX.out
                    clear hPL hbig
                    replace hbig' : decide (MX < PL) = false := by simpa using hbig'
                    go_upto_region 7 with fail
                    clear hmx
                    go_wp2_with fail
                    go_roundw
                    case rel => exact ⟨k + 1, here + As.size ps, sy1, by rw [HPL2.out], by simp, HLT.out, by have := HNB.out; omega, HSY.out, HGO.out, HO6.out, HB6.out⟩
                    case measure => have := HLT.out; simp [intOf]; omega
                · have HBAD := Lib.hid (show As.rfirst a 0 0 [] ls = .bad (k + 1) 30 from by rw [HFW.out, if_pos ⟨HLDP.out, hal⟩])
                  have hrem : (Int.tmod ((a : Int) + (here : Int)) 4 != 0) = true := by have := HT4.out; rw [bne_iff_ne, Int.tmod_eq_emod_of_nonneg (by omega)]; omega
                  have hrem2 : (((a : Int) + (here : Int)) % 4 != 0) = true := by have := HT4.out; rw [bne_iff_ne]; omega
                  go_wp2_with fail
                  go_ret3
                  exact As.RFirstPost.bad HBAD.out (by simp) rfl HB5.out
    · obtain rfl : k = ls.length := by omega
      have HV := Lib.hid (show As.rfirst a 0 0 [] ls = .ok sy from by rw [HF.out, List.drop_length]; rfl)
      go_wp2_with fail
      go_ret3
      rw [HV.out]
      exact ⟨_, rfl, HO.out, HB.out⟩
end Go.Proofs.YtpcpaoeajcjoiaaGreatDoor
