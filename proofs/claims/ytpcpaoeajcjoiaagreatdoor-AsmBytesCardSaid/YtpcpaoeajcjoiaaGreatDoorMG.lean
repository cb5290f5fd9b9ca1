/- Texts joined, what is not reached left out. -/
import Derived.Test.YtpcpaoeajcjoiaaGreatDoorMD
import Derived.Test.YtpcpaoeajcjoiaaGreatDoorMF
import Derived.Test.YtpcpaoeajcjoiaaGreatDoorME
/- Layer 7: the document's bytes: byte. -/
namespace Go.Proofs.YtpcpaoeajcjoiaaGreatDoor
open Go.RowKit Kit
set_option linter.unusedVariables false
set_option linter.unusedSimpArgs false

theorem As.src_byte (W : World) (u : Value) (hu : u.oneCell' = true) (N : Nat) (hN : N = W.heap.size) : Src Tryz.prog 1 26 (.slice (some ⟨N, 0, none⟩) 1 1) 1 [u] (W.alloc (.cells #[u] 5)) := by
  subst hN
  have hbk := Bk.fresh W 5 #[u]
  refine Rd.src abyt ⟨rfl, some ⟨W.heap.size, 0, none⟩, 1, rfl, Nat.le_refl _, by unfold maxLen; omega, fun _ => ⟨_, 0, rfl, hbk.lt, fun j v hv => ?_⟩⟩ (fun v hv => by rw [List.mem_singleton.1 hv]; exact hu)
  rw [Nat.zero_add, hbk.cell j]
  simpa using hv
theorem As.allB_snoc (l : List As.P) (b : List UInt8) : As.allB (l ++ [As.raw b]) = As.allB l ++ b := by simp [As.allB, As.raw]
theorem bv_snoc (a b : List UInt8) : bv (a ++ b) = bv a ++ bv b := by simp [bv]
theorem As.own_fr {F : Nat → Prop} {w w' : World} {B : Nat} {e : TypeId} {size : Nat} {v : Value} {n : Nat} {xs : List Value} (h : w.ownsRow B e size v n xs) (hf : Fr F w w') (hF : ∀ k, F k → k < B) : w'.ownsRow B e size v n xs :=
  hf.own h fun k hk hFk => by
    rcases h.2 with ⟨rfl, _⟩ | ⟨g', cap, cur, rfl, hB, _⟩
    · cases hk
    · simp [Value.ownBlock] at hk
      subst hk
      have := hF _ hFk
      omega
/-- A row of single bytes. -/
def As.Raws1 (l : List As.P) : Prop := ∀ p ∈ l, ∃ b, p = As.raw [b]
theorem As.Raws1.len : ∀ {l : List As.P}, As.Raws1 l → (As.allB l).length = l.length
  | [], _ => rfl
  | p :: t, h => by
    obtain ⟨b, rfl⟩ := h p (by simp)
    have := As.Raws1.len (l := t) (fun q hq => h q (by simp [hq]))
    unfold As.allB at this ⊢
    simp [As.raw, this]
set_option maxRecDepth 100000 in
set_option maxHeartbeats 8000000 in
theorem rdata_byte {w : World} {g : Nat} {x : As.L} (h : As.Rk w g x) (hp : x.p = []) (hsh : As.Short x.l) (hl : x.l.length ≤ 10000000) (a : Nat) (ha : a < 4294967296) :
    Calls Tryz.prog 92 #[.string ⟨#[98, 121, 116, 101]⟩, .pointer (some ⟨g, 0, none⟩), .int .u32 (a : Int)] w (As.RDPost w g As.tByte (As.data As.tByte a x)) := by
  have HP := Lib.hid (show As.data As.tByte a x = some (As.loop As.byte1 (x.l.length + 1) x) from by unfold As.data; rw [if_neg (by decide), if_pos rfl])
  have HZ0 := Lib.hid (As.Rz.start h)
  have HS0 := Lib.hid hsh
  have HL := Lib.hid hl
  have HY0 := Lib.hid hp
  clear h hsh hl hp
  rw [HP.out]
  clear HP
  go_enter Tryz.func92, Tryz.ntmps92
  go_wp2_with fail
  go_loopw [12, 13] (fun out f wr => ∃ (b : Bool) (y : As.L), f = .bool b ∧ As.Rz w g wr y ∧ (wr.ownsRow w.heap.size 5 1 out y.p.length (bv (As.allB y.p)) ∧ As.Raws1 y.p) ∧ As.Short y.l ∧ y.p.length + y.l.length ≤ x.l.length + (if b = true then 0 else 1) ∧ As.Now As.byte1 x b y) (fun _ f wr => As.rmeas g f wr)
  case atStart => exact ⟨true, x, rfl, HZ0.out, by rw [HY0.out]; exact ⟨World.ownsRow_nil _ _ _ _, fun p hp => (by cases hp)⟩, HS0.out, by rw [HY0.out]; simp, by unfold As.Now; rw [if_pos rfl]⟩
  case round =>
    obtain ⟨b, y, rfl, hz, hout, hsh, hlen, hnow⟩ := hrel
    have HZ := Lib.hid hz
    obtain ⟨A, c, rfl⟩ := (Rd.of_own hout.1).form
    have HO := Lib.hid hout.1
    have HRW := Lib.hid hout.2
    have HS := Lib.hid hsh
    have HN := Lib.hid hnow
    have HLN := Lib.hid (show y.p.length ≤ 10000001 ∧ (As.B1 b y → y.p.length + 1 + y.l.tail.length ≤ x.l.length + 1) from by
      have := HL.out
      refine ⟨by split at hlen <;> omega, fun hb => ?_⟩
      rw [List.length_tail]
      unfold As.B1 at hb
      rcases hb with hb | hb
      · subst hb; rw [if_pos rfl] at hlen; omega
      · have := List.length_pos_iff.2 hb; split at hlen <;> omega)
    obtain ⟨A0, n0, cc0, k0, hsee⟩ := hz.rk.see
    have c0 := hsee.c0
    have c1 := hsee.c1
    have HSE := Lib.hid hsee
    clear hz hout hsh hnow hlen hsee
    cases b
    · by_cases hy : y.l = []
      · have HY := Lib.hid (HN.out.done hy)
        have hge : ¬ (k0 : Int) < (n0 : Int) := by have := HSE.out.len; rw [hy] at this; simp at this; omega
        clear hy
        go_wp2_with fail
        go_quiet (fail)
        go_wp2_with fail
        go_ret2
        rw [← HY.out]
        refine As.RDPost.raw (b := As.allB y.p) (HZ.out.kept (isDrewN6 (Below.refl _ _) nq)) ?_ ?_ (by simp [World.drewN])
        · have h2 := own_kept HO.out (isDrewN6 (Below.refl wr.heap.size wr) nq)
          have h3 := Rd.of_own h2
          exact ⟨by rw [HRW.out.len]; exact h3, As.From.own h2⟩
        · unfold As.join; rw [if_pos rfl]
      · have HB := Lib.hid (show As.B1 false y from .inr hy)
        have hlt : (k0 : Int) < (n0 : Int) := by have h1 := HSE.out.len; have h2 := List.length_pos_iff.2 hy; omega
        have HMS := Lib.hid (show y.l.tail.length < As.rmeas g (.bool false) wr from by rw [As.rmeas_is HZ.out.rk false, List.length_tail]; have := List.length_pos_iff.2 hy; simp; omega)
        clear hy
        go_wp2_with fail
        go_quiet (fail)
        go_wp2_with fail
        have HBQ := Lib.hid (isDrewN6 (Below.refl wr.heap.size wr) nq)
        obtain ⟨wq, hwq⟩ : ∃ wq, wr.drewN nq = wq := ⟨_, rfl⟩
        rw [hwq] at HBQ ⊢
        clear hwq
        have HZQ := Lib.hid (HZ.out.kept HBQ.out)
        have HOQ := Lib.hid (own_kept HO.out HBQ.out)
        go_at_call 147
        refine (rrdnum_any HZQ.out.rk HS.out).mono ?_
        rintro e w1 ⟨rfl, g1⟩
        have HZ1 := Lib.hid (HZQ.out.step g1)
        have HO1 := Lib.hid (As.own_fr HOQ.out g1.2 (fun k e => e ▸ HZ.out.lt))
        have HS1 := Lib.hid HS.out.num
        have HE1 := Lib.hid (show (As.num y).2.l = y.l.tail from As.next_l y)
        have HE2 := Lib.hid (As.num_p y)
        have HW := Lib.hid (show As.byte1 y = As.put (As.raw [UInt8.ofNat ((As.num y).1 % 256).toNat]) (As.sat (decide (-128 ≤ (As.num y).1) && decide ((As.num y).1 ≤ 255)) (As.num y).2) from rfl)
        clear g1
        generalize As.num y = E at *
        obtain ⟨n, l1, ok1, p1⟩ := E
        dsimp only at HZ1 HS1 HE1 HE2 HW ⊢
        obtain ⟨A1, n1, cc1, k1, hsee⟩ := HZ1.out.rk.see
        have d2 := hsee.c2
        have e2 := hsee.f2
        dsimp only at d2
        clear hsee
        have HBV := Lib.hid (show (bv [UInt8.ofNat (n % 256).toNat]) = [.int .u8 (n % 256)] from by simp [bv, UInt8.toNat_ofNat']; omega)
        cases ok1
        · have HV := Lib.hid (show As.byte1 y = As.put (As.raw [UInt8.ofNat (n % 256).toNat]) ⟨l1, false, p1⟩ from by rw [HW.out]; unfold As.sat; rfl)
          have HF := Lib.hid (HZ1.out.rk.flag (false))
          have HZ2 := Lib.hid (HZ1.out.step HF.out)
          have HO2 := Lib.hid (As.own_fr HO1.out HF.out.2 (fun k e => e ▸ HZ.out.lt))
          have HO3 := Lib.hid (own_kept HO2.out ((Below.refl _ _).alloc (Nat.le_refl _) (.cells #[.int .u8 (n % 256)] 5)))
          have HS3 := Lib.hid (As.src_byte (w1.setCell ⟨g, 2, none⟩ (.bool (false))) (.int .u8 (n % 256)) rfl w1.heap.size (by simp [World.setCell]))
          have HZ3 := Lib.hid (HZ2.out.kept ((Below.refl _ _).alloc (Nat.le_refl _) (.cells #[.int .u8 (n % 256)] 5)))
          have HL1 := Lib.hid (show (y.p.length + 1) * 1 ≤ 140737488355328 by have := HLN.out.1; omega)
          have HL2 := Lib.hid (show y.p.length + 1 ≤ maxLen by have := HLN.out.1; unfold maxLen; omega)
          go_wp2_with (at_builtin; refine wpList_appendRB rfl _ _ _ _ rfl abyt (by decide) w.heap.size (.slice A y.p.length c) rfl y.p.length _ HO3.out _ rfl 1 [.int .u8 (n % 256)] HS3.out HL1.out HL2.out HZ3.out.size ?_; intro v3 w3 ho3 hb3 hg3 hv3; obtain ⟨A3, c3, rfl⟩ := (Rd.of_own ho3).form; have HO4 := Lib.hid ho3; have HB4 := Lib.hid hb3; clear ho3 hb3 hg3 hv3)
          have HZ5 := Lib.hid (show As.Rz w g w3 (As.byte1 y) from by
            have h2 := HZ3.out.grown HB4.out
            rw [HV.out]
            exact ⟨⟨h2.rk.obj⟩, h2.fr, h2.lt⟩)
          have hpy : (As.byte1 y).p = y.p ++ [As.raw [UInt8.ofNat (n % 256).toNat]] := by rw [HV.out]; show p1 ++ [_] = _; rw [show p1 = y.p from HE2.out]
          have HRW5 := Lib.hid (show As.Raws1 (As.byte1 y).p from by rw [hpy]; intro q hq; rcases List.mem_append.1 hq with hq | hq; exact HRW.out q hq; exact ⟨_, List.mem_singleton.1 hq⟩)
          have HO5 := Lib.hid (show w3.ownsRow w.heap.size 5 1 (.slice A3 (y.p.length + 1) c3) (As.byte1 y).p.length (bv (As.allB (As.byte1 y).p)) from by
            rw [hpy, List.length_append, List.length_cons, List.length_nil, Nat.zero_add, As.allB_snoc, bv_snoc, HBV.out]
            exact HO4.out)
          have hl3 : (As.byte1 y).l = y.l.tail := As.byte1_l y
          have hp3 : (As.byte1 y).p.length = y.p.length + 1 := by rw [hpy]; simp
          have HL3 := Lib.hid hl3
          have HP3 := Lib.hid hp3
          have HS5 := Lib.hid (show As.Short (As.byte1 y).l from by rw [hl3, ← HE1.out]; exact HS1.out)
          have HNX := Lib.hid (HN.out.next As.byte1_l HB.out)
          clear hl3 hp3 hpy
          go_roundw
          case rel => exact ⟨false, As.byte1 y, rfl, HZ5.out, ⟨HO5.out, HRW5.out⟩, HS5.out, by rw [HP3.out, HL3.out, if_neg (by decide)]; exact HLN.out.2 HB.out, HNX.out⟩
          case measure => have e := As.rmeas_is HZ5.out.rk false; rw [HL3.out, if_neg (by decide), Nat.zero_add] at e; rw [e]; exact HMS.out
        · by_cases h1 : -128 ≤ n
          · have HV := Lib.hid (show As.byte1 y = As.put (As.raw [UInt8.ofNat (n % 256).toNat]) ⟨l1, decide (n ≤ 255), p1⟩ from by rw [HW.out]; unfold As.sat; simp [h1])
            have HF := Lib.hid (HZ1.out.rk.flag (decide (n ≤ 255)))
            have HZ2 := Lib.hid (HZ1.out.step HF.out)
            have HO2 := Lib.hid (As.own_fr HO1.out HF.out.2 (fun k e => e ▸ HZ.out.lt))
            have HO3 := Lib.hid (own_kept HO2.out ((Below.refl _ _).alloc (Nat.le_refl _) (.cells #[.int .u8 (n % 256)] 5)))
            have HS3 := Lib.hid (As.src_byte (w1.setCell ⟨g, 2, none⟩ (.bool (decide (n ≤ 255)))) (.int .u8 (n % 256)) rfl w1.heap.size (by simp [World.setCell]))
            have HZ3 := Lib.hid (HZ2.out.kept ((Below.refl _ _).alloc (Nat.le_refl _) (.cells #[.int .u8 (n % 256)] 5)))
            have HL1 := Lib.hid (show (y.p.length + 1) * 1 ≤ 140737488355328 by have := HLN.out.1; omega)
            have HL2 := Lib.hid (show y.p.length + 1 ≤ maxLen by have := HLN.out.1; unfold maxLen; omega)
            go_wp2_with (at_builtin; refine wpList_appendRB rfl _ _ _ _ rfl abyt (by decide) w.heap.size (.slice A y.p.length c) rfl y.p.length _ HO3.out _ rfl 1 [.int .u8 (n % 256)] HS3.out HL1.out HL2.out HZ3.out.size ?_; intro v3 w3 ho3 hb3 hg3 hv3; obtain ⟨A3, c3, rfl⟩ := (Rd.of_own ho3).form; have HO4 := Lib.hid ho3; have HB4 := Lib.hid hb3; clear ho3 hb3 hg3 hv3)
            have HZ5 := Lib.hid (show As.Rz w g w3 (As.byte1 y) from by
              have h2 := HZ3.out.grown HB4.out
              rw [HV.out]
              exact ⟨⟨h2.rk.obj⟩, h2.fr, h2.lt⟩)
            have hpy : (As.byte1 y).p = y.p ++ [As.raw [UInt8.ofNat (n % 256).toNat]] := by rw [HV.out]; show p1 ++ [_] = _; rw [show p1 = y.p from HE2.out]
            have HRW5 := Lib.hid (show As.Raws1 (As.byte1 y).p from by rw [hpy]; intro q hq; rcases List.mem_append.1 hq with hq | hq; exact HRW.out q hq; exact ⟨_, List.mem_singleton.1 hq⟩)
            have HO5 := Lib.hid (show w3.ownsRow w.heap.size 5 1 (.slice A3 (y.p.length + 1) c3) (As.byte1 y).p.length (bv (As.allB (As.byte1 y).p)) from by
              rw [hpy, List.length_append, List.length_cons, List.length_nil, Nat.zero_add, As.allB_snoc, bv_snoc, HBV.out]
              exact HO4.out)
            have hl3 : (As.byte1 y).l = y.l.tail := As.byte1_l y
            have hp3 : (As.byte1 y).p.length = y.p.length + 1 := by rw [hpy]; simp
            have HL3 := Lib.hid hl3
            have HP3 := Lib.hid hp3
            have HS5 := Lib.hid (show As.Short (As.byte1 y).l from by rw [hl3, ← HE1.out]; exact HS1.out)
            have HNX := Lib.hid (HN.out.next As.byte1_l HB.out)
            clear hl3 hp3 hpy
            go_roundw
            case rel => exact ⟨false, As.byte1 y, rfl, HZ5.out, ⟨HO5.out, HRW5.out⟩, HS5.out, by rw [HP3.out, HL3.out, if_neg (by decide)]; exact HLN.out.2 HB.out, HNX.out⟩
            case measure => have e := As.rmeas_is HZ5.out.rk false; rw [HL3.out, if_neg (by decide), Nat.zero_add] at e; rw [e]; exact HMS.out
          · have HV := Lib.hid (show As.byte1 y = As.put (As.raw [UInt8.ofNat (n % 256).toNat]) ⟨l1, false, p1⟩ from by rw [HW.out]; unfold As.sat; simp [h1])
            have HF := Lib.hid (HZ1.out.rk.flag (false))
            have HZ2 := Lib.hid (HZ1.out.step HF.out)
            have HO2 := Lib.hid (As.own_fr HO1.out HF.out.2 (fun k e => e ▸ HZ.out.lt))
            have HO3 := Lib.hid (own_kept HO2.out ((Below.refl _ _).alloc (Nat.le_refl _) (.cells #[.int .u8 (n % 256)] 5)))
            have HS3 := Lib.hid (As.src_byte (w1.setCell ⟨g, 2, none⟩ (.bool (false))) (.int .u8 (n % 256)) rfl w1.heap.size (by simp [World.setCell]))
            have HZ3 := Lib.hid (HZ2.out.kept ((Below.refl _ _).alloc (Nat.le_refl _) (.cells #[.int .u8 (n % 256)] 5)))
            have HL1 := Lib.hid (show (y.p.length + 1) * 1 ≤ 140737488355328 by have := HLN.out.1; omega)
            have HL2 := Lib.hid (show y.p.length + 1 ≤ maxLen by have := HLN.out.1; unfold maxLen; omega)
            go_wp2_with (at_builtin; refine wpList_appendRB rfl _ _ _ _ rfl abyt (by decide) w.heap.size (.slice A y.p.length c) rfl y.p.length _ HO3.out _ rfl 1 [.int .u8 (n % 256)] HS3.out HL1.out HL2.out HZ3.out.size ?_; intro v3 w3 ho3 hb3 hg3 hv3; obtain ⟨A3, c3, rfl⟩ := (Rd.of_own ho3).form; have HO4 := Lib.hid ho3; have HB4 := Lib.hid hb3; clear ho3 hb3 hg3 hv3)
            have HZ5 := Lib.hid (show As.Rz w g w3 (As.byte1 y) from by
              have h2 := HZ3.out.grown HB4.out
              rw [HV.out]
              exact ⟨⟨h2.rk.obj⟩, h2.fr, h2.lt⟩)
            have hpy : (As.byte1 y).p = y.p ++ [As.raw [UInt8.ofNat (n % 256).toNat]] := by rw [HV.out]; show p1 ++ [_] = _; rw [show p1 = y.p from HE2.out]
            have HRW5 := Lib.hid (show As.Raws1 (As.byte1 y).p from by rw [hpy]; intro q hq; rcases List.mem_append.1 hq with hq | hq; exact HRW.out q hq; exact ⟨_, List.mem_singleton.1 hq⟩)
            have HO5 := Lib.hid (show w3.ownsRow w.heap.size 5 1 (.slice A3 (y.p.length + 1) c3) (As.byte1 y).p.length (bv (As.allB (As.byte1 y).p)) from by
              rw [hpy, List.length_append, List.length_cons, List.length_nil, Nat.zero_add, As.allB_snoc, bv_snoc, HBV.out]
              exact HO4.out)
            have hl3 : (As.byte1 y).l = y.l.tail := As.byte1_l y
            have hp3 : (As.byte1 y).p.length = y.p.length + 1 := by rw [hpy]; simp
            have HL3 := Lib.hid hl3
            have HP3 := Lib.hid hp3
            have HS5 := Lib.hid (show As.Short (As.byte1 y).l from by rw [hl3, ← HE1.out]; exact HS1.out)
            have HNX := Lib.hid (HN.out.next As.byte1_l HB.out)
            clear hl3 hp3 hpy
            go_roundw
            case rel => exact ⟨false, As.byte1 y, rfl, HZ5.out, ⟨HO5.out, HRW5.out⟩, HS5.out, by rw [HP3.out, HL3.out, if_neg (by decide)]; exact HLN.out.2 HB.out, HNX.out⟩
            case measure => have e := As.rmeas_is HZ5.out.rk false; rw [HL3.out, if_neg (by decide), Nat.zero_add] at e; rw [e]; exact HMS.out
    · have HB := Lib.hid (show As.B1 true y from .inl rfl)
      have HMS := Lib.hid (show y.l.tail.length < As.rmeas g (.bool true) wr from by rw [As.rmeas_is HZ.out.rk true, List.length_tail]; simp; omega)
      clear c0 c1
      go_wp2_with fail
      go_quiet (fail)
      go_wp2_with fail
      have HBQ := Lib.hid (isDrewN6 (Below.refl wr.heap.size wr) nq)
      obtain ⟨wq, hwq⟩ : ∃ wq, wr.drewN nq = wq := ⟨_, rfl⟩
      rw [hwq] at HBQ ⊢
      clear hwq
      have HZQ := Lib.hid (HZ.out.kept HBQ.out)
      have HOQ := Lib.hid (own_kept HO.out HBQ.out)
      go_at_call 147
      refine (rrdnum_any HZQ.out.rk HS.out).mono ?_
      rintro e w1 ⟨rfl, g1⟩
      have HZ1 := Lib.hid (HZQ.out.step g1)
      have HO1 := Lib.hid (As.own_fr HOQ.out g1.2 (fun k e => e ▸ HZ.out.lt))
      have HS1 := Lib.hid HS.out.num
      have HE1 := Lib.hid (show (As.num y).2.l = y.l.tail from As.next_l y)
      have HE2 := Lib.hid (As.num_p y)
      have HW := Lib.hid (show As.byte1 y = As.put (As.raw [UInt8.ofNat ((As.num y).1 % 256).toNat]) (As.sat (decide (-128 ≤ (As.num y).1) && decide ((As.num y).1 ≤ 255)) (As.num y).2) from rfl)
      clear g1
      generalize As.num y = E at *
      obtain ⟨n, l1, ok1, p1⟩ := E
      dsimp only at HZ1 HS1 HE1 HE2 HW ⊢
      obtain ⟨A1, n1, cc1, k1, hsee⟩ := HZ1.out.rk.see
      have d2 := hsee.c2
      have e2 := hsee.f2
      dsimp only at d2
      clear hsee
      have HBV := Lib.hid (show (bv [UInt8.ofNat (n % 256).toNat]) = [.int .u8 (n % 256)] from by simp [bv, UInt8.toNat_ofNat']; omega)
      cases ok1
      · have HV := Lib.hid (show As.byte1 y = As.put (As.raw [UInt8.ofNat (n % 256).toNat]) ⟨l1, false, p1⟩ from by rw [HW.out]; unfold As.sat; rfl)
        have HF := Lib.hid (HZ1.out.rk.flag (false))
        have HZ2 := Lib.hid (HZ1.out.step HF.out)
        have HO2 := Lib.hid (As.own_fr HO1.out HF.out.2 (fun k e => e ▸ HZ.out.lt))
        have HO3 := Lib.hid (own_kept HO2.out ((Below.refl _ _).alloc (Nat.le_refl _) (.cells #[.int .u8 (n % 256)] 5)))
        have HS3 := Lib.hid (As.src_byte (w1.setCell ⟨g, 2, none⟩ (.bool (false))) (.int .u8 (n % 256)) rfl w1.heap.size (by simp [World.setCell]))
        have HZ3 := Lib.hid (HZ2.out.kept ((Below.refl _ _).alloc (Nat.le_refl _) (.cells #[.int .u8 (n % 256)] 5)))
        have HL1 := Lib.hid (show (y.p.length + 1) * 1 ≤ 140737488355328 by have := HLN.out.1; omega)
        have HL2 := Lib.hid (show y.p.length + 1 ≤ maxLen by have := HLN.out.1; unfold maxLen; omega)
        go_wp2_with (at_builtin; refine wpList_appendRB rfl _ _ _ _ rfl abyt (by decide) w.heap.size (.slice A y.p.length c) rfl y.p.length _ HO3.out _ rfl 1 [.int .u8 (n % 256)] HS3.out HL1.out HL2.out HZ3.out.size ?_; intro v3 w3 ho3 hb3 hg3 hv3; obtain ⟨A3, c3, rfl⟩ := (Rd.of_own ho3).form; have HO4 := Lib.hid ho3; have HB4 := Lib.hid hb3; clear ho3 hb3 hg3 hv3)
        have HZ5 := Lib.hid (show As.Rz w g w3 (As.byte1 y) from by
          have h2 := HZ3.out.grown HB4.out
          rw [HV.out]
          exact ⟨⟨h2.rk.obj⟩, h2.fr, h2.lt⟩)
        have hpy : (As.byte1 y).p = y.p ++ [As.raw [UInt8.ofNat (n % 256).toNat]] := by rw [HV.out]; show p1 ++ [_] = _; rw [show p1 = y.p from HE2.out]
        have HRW5 := Lib.hid (show As.Raws1 (As.byte1 y).p from by rw [hpy]; intro q hq; rcases List.mem_append.1 hq with hq | hq; exact HRW.out q hq; exact ⟨_, List.mem_singleton.1 hq⟩)
        have HO5 := Lib.hid (show w3.ownsRow w.heap.size 5 1 (.slice A3 (y.p.length + 1) c3) (As.byte1 y).p.length (bv (As.allB (As.byte1 y).p)) from by
          rw [hpy, List.length_append, List.length_cons, List.length_nil, Nat.zero_add, As.allB_snoc, bv_snoc, HBV.out]
          exact HO4.out)
        have hl3 : (As.byte1 y).l = y.l.tail := As.byte1_l y
        have hp3 : (As.byte1 y).p.length = y.p.length + 1 := by rw [hpy]; simp
        have HL3 := Lib.hid hl3
        have HP3 := Lib.hid hp3
        have HS5 := Lib.hid (show As.Short (As.byte1 y).l from by rw [hl3, ← HE1.out]; exact HS1.out)
        have HNX := Lib.hid (HN.out.next As.byte1_l HB.out)
        clear hl3 hp3 hpy
        go_roundw
        case rel => exact ⟨false, As.byte1 y, rfl, HZ5.out, ⟨HO5.out, HRW5.out⟩, HS5.out, by rw [HP3.out, HL3.out, if_neg (by decide)]; exact HLN.out.2 HB.out, HNX.out⟩
        case measure => have e := As.rmeas_is HZ5.out.rk false; rw [HL3.out, if_neg (by decide), Nat.zero_add] at e; rw [e]; exact HMS.out
      · by_cases h1 : -128 ≤ n
        · have HV := Lib.hid (show As.byte1 y = As.put (As.raw [UInt8.ofNat (n % 256).toNat]) ⟨l1, decide (n ≤ 255), p1⟩ from by rw [HW.out]; unfold As.sat; simp [h1])
          have HF := Lib.hid (HZ1.out.rk.flag (decide (n ≤ 255)))
          have HZ2 := Lib.hid (HZ1.out.step HF.out)
          have HO2 := Lib.hid (As.own_fr HO1.out HF.out.2 (fun k e => e ▸ HZ.out.lt))
          have HO3 := Lib.hid (own_kept HO2.out ((Below.refl _ _).alloc (Nat.le_refl _) (.cells #[.int .u8 (n % 256)] 5)))
          have HS3 := Lib.hid (As.src_byte (w1.setCell ⟨g, 2, none⟩ (.bool (decide (n ≤ 255)))) (.int .u8 (n % 256)) rfl w1.heap.size (by simp [World.setCell]))
          have HZ3 := Lib.hid (HZ2.out.kept ((Below.refl _ _).alloc (Nat.le_refl _) (.cells #[.int .u8 (n % 256)] 5)))
          have HL1 := Lib.hid (show (y.p.length + 1) * 1 ≤ 140737488355328 by have := HLN.out.1; omega)
          have HL2 := Lib.hid (show y.p.length + 1 ≤ maxLen by have := HLN.out.1; unfold maxLen; omega)
          go_wp2_with (at_builtin; refine wpList_appendRB rfl _ _ _ _ rfl abyt (by decide) w.heap.size (.slice A y.p.length c) rfl y.p.length _ HO3.out _ rfl 1 [.int .u8 (n % 256)] HS3.out HL1.out HL2.out HZ3.out.size ?_; intro v3 w3 ho3 hb3 hg3 hv3; obtain ⟨A3, c3, rfl⟩ := (Rd.of_own ho3).form; have HO4 := Lib.hid ho3; have HB4 := Lib.hid hb3; clear ho3 hb3 hg3 hv3)
          have HZ5 := Lib.hid (show As.Rz w g w3 (As.byte1 y) from by
            have h2 := HZ3.out.grown HB4.out
            rw [HV.out]
            exact ⟨⟨h2.rk.obj⟩, h2.fr, h2.lt⟩)
          have hpy : (As.byte1 y).p = y.p ++ [As.raw [UInt8.ofNat (n % 256).toNat]] := by rw [HV.out]; show p1 ++ [_] = _; rw [show p1 = y.p from HE2.out]
          have HRW5 := Lib.hid (show As.Raws1 (As.byte1 y).p from by rw [hpy]; intro q hq; rcases List.mem_append.1 hq with hq | hq; exact HRW.out q hq; exact ⟨_, List.mem_singleton.1 hq⟩)
          have HO5 := Lib.hid (show w3.ownsRow w.heap.size 5 1 (.slice A3 (y.p.length + 1) c3) (As.byte1 y).p.length (bv (As.allB (As.byte1 y).p)) from by
            rw [hpy, List.length_append, List.length_cons, List.length_nil, Nat.zero_add, As.allB_snoc, bv_snoc, HBV.out]
            exact HO4.out)
          have hl3 : (As.byte1 y).l = y.l.tail := As.byte1_l y
          have hp3 : (As.byte1 y).p.length = y.p.length + 1 := by rw [hpy]; simp
          have HL3 := Lib.hid hl3
          have HP3 := Lib.hid hp3
          have HS5 := Lib.hid (show As.Short (As.byte1 y).l from by rw [hl3, ← HE1.out]; exact HS1.out)
          have HNX := Lib.hid (HN.out.next As.byte1_l HB.out)
          clear hl3 hp3 hpy
          go_roundw
          case rel => exact ⟨false, As.byte1 y, rfl, HZ5.out, ⟨HO5.out, HRW5.out⟩, HS5.out, by rw [HP3.out, HL3.out, if_neg (by decide)]; exact HLN.out.2 HB.out, HNX.out⟩
          case measure => have e := As.rmeas_is HZ5.out.rk false; rw [HL3.out, if_neg (by decide), Nat.zero_add] at e; rw [e]; exact HMS.out
        · have HV := Lib.hid (show As.byte1 y = As.put (As.raw [UInt8.ofNat (n % 256).toNat]) ⟨l1, false, p1⟩ from by rw [HW.out]; unfold As.sat; simp [h1])
          have HF := Lib.hid (HZ1.out.rk.flag (false))
          have HZ2 := Lib.hid (HZ1.out.step HF.out)
          have HO2 := Lib.hid (As.own_fr HO1.out HF.out.2 (fun k e => e ▸ HZ.out.lt))
          have HO3 := Lib.hid (own_kept HO2.out ((Below.refl _ _).alloc (Nat.le_refl _) (.cells #[.int .u8 (n % 256)] 5)))
          have HS3 := Lib.hid (As.src_byte (w1.setCell ⟨g, 2, none⟩ (.bool (false))) (.int .u8 (n % 256)) rfl w1.heap.size (by simp [World.setCell]))
          have HZ3 := Lib.hid (HZ2.out.kept ((Below.refl _ _).alloc (Nat.le_refl _) (.cells #[.int .u8 (n % 256)] 5)))
          have HL1 := Lib.hid (show (y.p.length + 1) * 1 ≤ 140737488355328 by have := HLN.out.1; omega)
          have HL2 := Lib.hid (show y.p.length + 1 ≤ maxLen by have := HLN.out.1; unfold maxLen; omega)
          go_wp2_with (at_builtin; refine wpList_appendRB rfl _ _ _ _ rfl abyt (by decide) w.heap.size (.slice A y.p.length c) rfl y.p.length _ HO3.out _ rfl 1 [.int .u8 (n % 256)] HS3.out HL1.out HL2.out HZ3.out.size ?_; intro v3 w3 ho3 hb3 hg3 hv3; obtain ⟨A3, c3, rfl⟩ := (Rd.of_own ho3).form; have HO4 := Lib.hid ho3; have HB4 := Lib.hid hb3; clear ho3 hb3 hg3 hv3)
          have HZ5 := Lib.hid (show As.Rz w g w3 (As.byte1 y) from by
            have h2 := HZ3.out.grown HB4.out
            rw [HV.out]
            exact ⟨⟨h2.rk.obj⟩, h2.fr, h2.lt⟩)
          have hpy : (As.byte1 y).p = y.p ++ [As.raw [UInt8.ofNat (n % 256).toNat]] := by rw [HV.out]; show p1 ++ [_] = _; rw [show p1 = y.p from HE2.out]
          have HRW5 := Lib.hid (show As.Raws1 (As.byte1 y).p from by rw [hpy]; intro q hq; rcases List.mem_append.1 hq with hq | hq; exact HRW.out q hq; exact ⟨_, List.mem_singleton.1 hq⟩)
          have HO5 := Lib.hid (show w3.ownsRow w.heap.size 5 1 (.slice A3 (y.p.length + 1) c3) (As.byte1 y).p.length (bv (As.allB (As.byte1 y).p)) from by
            rw [hpy, List.length_append, List.length_cons, List.length_nil, Nat.zero_add, As.allB_snoc, bv_snoc, HBV.out]
            exact HO4.out)
          have hl3 : (As.byte1 y).l = y.l.tail := As.byte1_l y
          have hp3 : (As.byte1 y).p.length = y.p.length + 1 := by rw [hpy]; simp
          have HL3 := Lib.hid hl3
          have HP3 := Lib.hid hp3
          have HS5 := Lib.hid (show As.Short (As.byte1 y).l from by rw [hl3, ← HE1.out]; exact HS1.out)
          have HNX := Lib.hid (HN.out.next As.byte1_l HB.out)
          clear hl3 hp3 hpy
          go_roundw
          case rel => exact ⟨false, As.byte1 y, rfl, HZ5.out, ⟨HO5.out, HRW5.out⟩, HS5.out, by rw [HP3.out, HL3.out, if_neg (by decide)]; exact HLN.out.2 HB.out, HNX.out⟩
          case measure => have e := As.rmeas_is HZ5.out.rk false; rw [HL3.out, if_neg (by decide), Nat.zero_add] at e; rw [e]; exact HMS.out
end Go.Proofs.YtpcpaoeajcjoiaaGreatDoor
/- Layer 7: the document's bytes: text, space, align, span; all of them. -/
namespace Go.Proofs.YtpcpaoeajcjoiaaGreatDoor
open Go.RowKit Kit
set_option linter.unusedVariables false
set_option linter.unusedSimpArgs false

/-- A piece of bytes in a block of its own. -/
theorem As.RDPost.fresh {w W W' : World} {g N : Nat} {y y' : As.L} {s b : List UInt8} {c : Nat} (hz : As.Rz w g W y) (hb : Below W.heap.size W W') (hr : As.RdB1 w.heap.size W' (.slice (some ⟨W.heap.size, 0, none⟩) b.length c) b) (hs : s ≠ As.tByte) (hy : y.p = []) (hy' : y' = As.put (As.raw b) y) (hN : N = W'.heap.size) :
    As.RDPost w g s (some y') (.returned (.tuple #[.slice (some ⟨N, 0, none⟩) 1 1, .bool true])) (W'.alloc (.cells #[.int .i64 0, .int .i64 0, .int .i64 0, .int .i64 0, .int .i64 0, .string ⟨#[]⟩, .string ⟨#[]⟩, .string ⟨#[]⟩, .string ⟨#[]⟩, .string ⟨#[]⟩, .slice (some ⟨W.heap.size, 0, none⟩) b.length c, .bool false] 116)) := by
  subst hy'
  refine As.RDPost.raw (b := b) ?_ hr ?_ hN
  · have h2 := hz.kept hb
    exact ⟨⟨h2.rk.obj⟩, h2.fr, h2.lt⟩
  · unfold As.join
    rw [if_neg hs]
    show y.p ++ [_] = _
    rw [hy]; rfl
theorem As.RDPost.none_ {w W : World} {g : Nat} {y : As.L} {s : List UInt8} (hz : As.RGo w g y W) (hs : s ≠ As.tByte) (hy : y.p = []) : As.RDPost w g s (some y) (.returned (.tuple #[.slice none 0 0, .bool true])) W := by
  refine ⟨_, rfl, ?_, hz⟩
  unfold As.join
  rw [if_neg hs, hy]
  exact As.RdQ.nil _ _
set_option maxRecDepth 100000 in
set_option maxHeartbeats 8000000 in
theorem rdata_text {w : World} {g : Nat} {x : As.L} (h : As.Rk w g x) (hp : x.p = []) (hsh : As.Short x.l) (a : Nat) :
    Calls Tryz.prog 92 #[.string ⟨#[116, 101, 120, 116]⟩, .pointer (some ⟨g, 0, none⟩), .int .u32 (a : Int)] w (As.RDPost w g As.tText (As.data As.tText a x)) := by
  obtain ⟨R, hR⟩ : ∃ R, R = (if (As.next x).2.ok && As.textOk (As.next x).1 then As.put (As.raw (((As.next x).1.take ((As.next x).1.length - 1)).drop 1)) (As.sat (As.textOk (As.next x).1) (As.next x).2) else As.sat (As.textOk (As.next x).1) (As.next x).2) := ⟨_, rfl⟩
  have HP := Lib.hid (show As.data As.tText a x = some R from by rw [hR]; unfold As.data; rw [if_neg (by decide), if_neg (by decide), if_pos rfl])
  have HZ0 := Lib.hid (As.Rz.start h)
  have HSL := Lib.hid hsh.next.1
  have HE2 := Lib.hid (show (As.next x).2.p = [] from by rw [As.next_p]; exact hp)
  clear h hsh hp
  have HRR := Lib.hid hR
  clear hR
  rw [HP.out]
  clear HP
  go_enter Tryz.func92, Tryz.ntmps92
  go_wp2_with fail
  go_at_call 152
  refine (rnext_any HZ0.out.rk).mono ?_
  rintro e w1 ⟨rfl, g1⟩
  have HZ1 := Lib.hid (HZ0.out.step g1)
  clear g1
  generalize As.next x = E at *
  obtain ⟨s, l1, ok1, p1⟩ := E
  dsimp only at HZ1 HE2 HSL HRR ⊢
  obtain ⟨A1, n1, cc1, k1, hsee⟩ := HZ1.out.rk.see
  have d2 := hsee.c2
  have e2 := hsee.f2
  dsimp only at d2
  clear hsee
  cases ok1
  · have HF := Lib.hid (HZ1.out.rk.flag (false))
    have HV := Lib.hid (show R = ⟨l1, false, p1⟩ from by rw [HRR.out]; rfl)
    go_wp2_with fail
    go_ret2
    rw [HV.out]
    exact As.RDPost.none_ (HZ1.out.step HF.out).go (by decide) HE2.out
  · by_cases h1 : 1 < s.length
    · have h1' : (1 : Int) < (s.length : Int) := by omega
      have h0 : 0 < s.length := by omega
      have h0' : (0 : Int) < (s.length : Int) := by omega
      have hsub : IntKind.i64.wrap ((s.length : Int) - 1) = ((s.length - 1 : Nat) : Int) := by have := HSL.out; unfold maxLen at this; rw [IntKind.wrap_i64]; omega
      have hget : (((((⟨s.toArray⟩ : ByteArray)[0]'h0).toNat : Int)) == 34) = (s.headD 0 == 34) := by
        rw [L6.get_data s 0 h0, Bool.eq_iff_iff, beq_iff_eq, beq_iff_eq]
        cases s with
        | nil => simp at h0
        | cons a b =>
          simp only [List.headD_cons, List.getD_cons_zero]
          exact ⟨fun h => UInt8.toNat_inj.1 (by have h' : a.toNat = 34 := by omega
                                                exact h'), fun h => by rw [h]; rfl⟩
      by_cases h2 : s.headD 0 = 34
      · have h2' : (s.headD 0 == 34) = true := by simpa using h2
        rw [h2'] at hget
        have HF := Lib.hid (HZ1.out.rk.flag true)
        have HV := Lib.hid (show R = As.put (As.raw ((s.take (s.length - 1)).drop 1)) ⟨l1, true, p1⟩ from by
          rw [HRR.out]
          have e : As.textOk s = true := by unfold As.textOk; rw [h2']; simp [h1]
          rw [e]; rfl)
        obtain ⟨B, hB⟩ : ∃ B, (s.take (s.length - 1)).drop 1 = B := ⟨_, rfl⟩
        have hx : (⟨s.toArray⟩ : ByteArray).extract 1 (s.length - 1) = ⟨B.toArray⟩ := by rw [ext_eq, ← hB, List.drop_take]
        have HBL := Lib.hid (show B.length ≤ maxLen from by rw [← hB]; simp only [List.length_drop, List.length_take]; have := HSL.out; omega)
        rw [hB] at HV
        have HZ2 := Lib.hid (HZ1.out.step HF.out)
        obtain ⟨w2, c2, hrun, hc1, hc2, hcell, hb2, hlt2⟩ := As.conv_sb (w1.setCell ⟨g, 2, none⟩ (.bool true)) B HBL.out
        have hfr : As.RdB1 w.heap.size w2 (.slice (some ⟨(w1.setCell ⟨g, 2, none⟩ (.bool true)).heap.size, 0, none⟩) B.length c2) B := by
          refine ⟨⟨by rw [bv_length, Nat.mul_one], some ⟨_, 0, none⟩, c2, rfl, hc1, hc2, fun _ => ⟨_, 0, rfl, hlt2, fun j u hu => ?_⟩⟩, fun g off n c e hn => ?_⟩
          · have hj : j < B.length := by
              have := (List.getElem?_eq_some_iff.1 hu).1
              rwa [bv_length] at this
            rw [Nat.zero_add, hcell j hj]
            simp only [bv, List.getElem?_map, List.getElem?_eq_getElem hj, Option.map_some] at hu
            injection hu with hu
            rw [← hu]
            simp [List.getD, List.getElem?_eq_getElem hj]
          · injection e with e _ _
            injection e with e
            injection e with e _
            have := HZ2.out.size
            omega
        have hsz : (w1.setCell ⟨g, 2, none⟩ (.bool true)).heap.size = w1.heap.size := by simp [World.setCell]
        have hpost := As.RDPost.fresh (y' := R) (s := As.tText) (N := w2.heap.size) HZ2.out hb2 hfr (by decide) HE2.out HV.out rfl
        rw [hsz] at hrun hpost
        have HPO := Lib.hid hpost
        clear hc1 hc2 hcell hlt2 hb2 hB hfr hsz hpost
        go_wp2_with fail
        go_ret2
        exact HPO.out
      · have h2' : (s.headD 0 == 34) = false := by simpa using h2
        rw [h2'] at hget
        have HF := Lib.hid (HZ1.out.rk.flag (false))
        have HV := Lib.hid (show R = ⟨l1, false, p1⟩ from by rw [HRR.out]; unfold As.textOk As.sat; rw [h2']; simp)
        go_wp2_with fail
        go_ret2
        rw [HV.out]
        exact As.RDPost.none_ (HZ1.out.step HF.out).go (by decide) HE2.out
    · have h1' : ¬ (1 : Int) < (s.length : Int) := by omega
      have HF := Lib.hid (HZ1.out.rk.flag (false))
      have HV := Lib.hid (show R = ⟨l1, false, p1⟩ from by rw [HRR.out]; unfold As.textOk As.sat; simp [h1])
      go_wp2_with fail
      go_ret2
      rw [HV.out]
      exact As.RDPost.none_ (HZ1.out.step HF.out).go (by decide) HE2.out
set_option maxRecDepth 100000 in
set_option maxHeartbeats 8000000 in
theorem rdata_space {w : World} {g : Nat} {x : As.L} (h : As.Rk w g x) (hp : x.p = []) (hsh : As.Short x.l) (a : Nat) :
    Calls Tryz.prog 92 #[.string ⟨#[115, 112, 97, 99, 101]⟩, .pointer (some ⟨g, 0, none⟩), .int .u32 (a : Int)] w (As.RDPost w g As.tSpace (As.data As.tSpace a x)) := by
  obtain ⟨R, hR⟩ : ∃ R, R = (if (As.num x).2.ok && As.spaceOk (As.num x).1 then As.put (As.raw (List.replicate (As.num x).1.toNat 0)) (As.sat (As.spaceOk (As.num x).1) (As.num x).2) else As.sat (As.spaceOk (As.num x).1) (As.num x).2) := ⟨_, rfl⟩
  have HP := Lib.hid (show As.data As.tSpace a x = some R from by rw [hR]; unfold As.data; rw [if_neg (by decide), if_neg (by decide), if_neg (by decide), if_pos rfl])
  have HZ0 := Lib.hid (As.Rz.start h)
  have HSH := Lib.hid hsh
  have HE2 := Lib.hid (show (As.num x).2.p = [] from by rw [As.num_p]; exact hp)
  clear h hsh hp
  have HRR := Lib.hid hR
  clear hR
  rw [HP.out]
  clear HP
  go_enter Tryz.func92, Tryz.ntmps92
  go_wp2_with fail
  go_at_call 147
  refine (rrdnum_any HZ0.out.rk HSH.out).mono ?_
  rintro e w1 ⟨rfl, g1⟩
  have HZ1 := Lib.hid (HZ0.out.step g1)
  clear g1
  generalize As.num x = E at *
  obtain ⟨n, l1, ok1, p1⟩ := E
  dsimp only at HZ1 HE2 HRR ⊢
  obtain ⟨A1, n1, cc1, k1, hsee⟩ := HZ1.out.rk.see
  have d2 := hsee.c2
  have e2 := hsee.f2
  dsimp only at d2
  clear hsee
  cases ok1
  · have HF := Lib.hid (HZ1.out.rk.flag (false))
    have HV := Lib.hid (show R = ⟨l1, false, p1⟩ from by rw [HRR.out]; rfl)
    go_wp2_with fail
    go_ret2
    rw [HV.out]
    exact As.RDPost.none_ (HZ1.out.step HF.out).go (by decide) HE2.out
  · by_cases h1 : 0 ≤ n
    · by_cases h2 : n ≤ 131072
      · obtain ⟨m, rfl⟩ : ∃ m : Nat, n = (m : Int) := ⟨n.toNat, by omega⟩
        have h2' : (decide ((m : Int) ≤ 131072)) = true := by simpa using h2
        have HF := Lib.hid (HZ1.out.rk.flag true)
        have HV := Lib.hid (show R = As.put (As.raw (List.replicate m 0)) ⟨l1, true, p1⟩ from by
          rw [HRR.out]
          have e : As.spaceOk (m : Int) = true := by unfold As.spaceOk; simp [h2]
          rw [e]; rfl)
        have hmk := fun W => As.zeros_make .i64 m (by omega) W
        have HZ2 := Lib.hid (HZ1.out.step HF.out)
        have hfr := As.RdB1.fresh (w1.setCell ⟨g, 2, none⟩ (.bool true)) (List.replicate m 0) (by rw [List.length_replicate]; unfold maxLen; omega) w.heap.size HZ2.out.size
        have hpost := As.RDPost.fresh (y' := R) (s := As.tSpace) (N := w1.heap.size + 1) HZ2.out ((Below.refl _ _).alloc (Nat.le_refl _) _) hfr (by decide) HE2.out HV.out (by simp [World.setCell])
        rw [List.length_replicate, show (w1.setCell ⟨g, 2, none⟩ (.bool true)).heap.size = w1.heap.size by simp [World.setCell]] at hpost
        have HPO := Lib.hid hpost
        clear hfr hpost
        go_wp2_with fail
        go_ret2
        exact HPO.out
      · have h2' : (decide (n ≤ 131072)) = false := by simpa using h2
        have HF := Lib.hid (HZ1.out.rk.flag (false))
        have HV := Lib.hid (show R = ⟨l1, false, p1⟩ from by rw [HRR.out]; unfold As.spaceOk As.sat; simp [h1, h2])
        go_wp2_with fail
        go_ret2
        rw [HV.out]
        exact As.RDPost.none_ (HZ1.out.step HF.out).go (by decide) HE2.out
    · have HF := Lib.hid (HZ1.out.rk.flag (false))
      have HV := Lib.hid (show R = ⟨l1, false, p1⟩ from by rw [HRR.out]; unfold As.spaceOk As.sat; simp [h1])
      go_wp2_with fail
      go_ret2
      rw [HV.out]
      exact As.RDPost.none_ (HZ1.out.step HF.out).go (by decide) HE2.out
set_option maxRecDepth 100000 in
set_option maxHeartbeats 8000000 in
theorem rdata_align {w : World} {g : Nat} {x : As.L} (h : As.Rk w g x) (hp : x.p = []) (a : Nat) (ha : a < 4294967296) :
    Calls Tryz.prog 92 #[.string ⟨#[97, 108, 105, 103, 110]⟩, .pointer (some ⟨g, 0, none⟩), .int .u32 (a : Int)] w (As.RDPost w g As.tAlign (As.data As.tAlign a x)) := by
  have HP := Lib.hid (show As.data As.tAlign a x = some (As.put (As.raw (List.replicate ((4 - a % 4) % 4) 0)) x) from by unfold As.data; rw [if_neg (by decide), if_neg (by decide), if_neg (by decide), if_neg (by decide), if_pos rfl])
  obtain ⟨m, hm⟩ : ∃ m, (4 - a % 4) % 4 = m := ⟨_, rfl⟩
  rw [hm] at HP
  obtain ⟨z, hz⟩ : ∃ z : Nat, a % 4 = z := ⟨_, rfl⟩
  have hr1 : Int.tmod (a : Int) 4 = (z : Int) := by rw [Int.tmod_eq_emod_of_nonneg (by omega)]; omega
  have hr1' : (a : Int) % 4 = (z : Int) := by omega
  have hs1 : IntKind.u32.wrap (4 - (z : Int)) = ((4 - z : Nat) : Int) := by rw [IntKind.wrap_u32]; omega
  have hs1' : (4 - (z : Int)) % 4294967296 = ((4 - z : Nat) : Int) := by omega
  have hr2 : Int.tmod (((4 - z : Nat) : Int)) 4 = (m : Int) := by rw [Int.tmod_eq_emod_of_nonneg (by omega)]; omega
  have hr2' : (((4 - z : Nat) : Int)) % 4 = (m : Int) := by omega
  have HM4 := Lib.hid (show m ≤ 4 from by omega)
  have hmk := fun W => As.zeros_make .u32 m (by omega) W
  have HZ0 := Lib.hid (As.Rz.start h)
  have hfr := As.RdB1.fresh w (List.replicate m 0) (by rw [List.length_replicate]; unfold maxLen; omega) w.heap.size (Nat.le_refl _)
  have hpost := As.RDPost.fresh (y' := As.put (As.raw (List.replicate m 0)) x) (s := As.tAlign) (N := w.heap.size + 1) HZ0.out ((Below.refl _ _).alloc (Nat.le_refl _) _) hfr (by decide) hp rfl (by simp)
  rw [List.length_replicate] at hpost
  have HPO := Lib.hid hpost
  clear h hp ha hm hz hfr hpost
  rw [HP.out]
  clear HP
  generalize (4 - z : Nat) = z2 at *
  go_enter Tryz.func92, Tryz.ntmps92
  go_wp2_with fail
  go_ret2
  exact HPO.out
end Go.Proofs.YtpcpaoeajcjoiaaGreatDoor
/- Layer 7: the document's bytes: span; any of them; is a reader done? -/
namespace Go.Proofs.YtpcpaoeajcjoiaaGreatDoor
open Go.RowKit Kit
set_option linter.unusedVariables false
set_option linter.unusedSimpArgs false

theorem As.RDPost.span {w W : World} {g N : Nat} {y : As.L} {b nm src : List UInt8} {vb : Value} (hz : As.Rz w g W y) (hr : As.RdB1 w.heap.size W vb b) (hy : y.p = []) (hN : N = W.heap.size) :
    As.RDPost w g As.tSpan (some (As.put ⟨false, As.no, b, 5, nm, src⟩ y)) (.returned (.tuple #[.slice (some ⟨N, 0, none⟩) 1 1, .bool true])) (W.alloc (.cells #[.int .i64 0, .int .i64 0, .int .i64 0, .int .i64 0, .int .i64 0, .string ⟨#[]⟩, .string ⟨#[]⟩, .string ⟨#[]⟩, .string ⟨nm.toArray⟩, .string ⟨src.toArray⟩, vb, .bool false] 116)) := by
  subst hN
  have hal : Below W.heap.size W (W.alloc (.cells #[.int .i64 0, .int .i64 0, .int .i64 0, .int .i64 0, .int .i64 0, .string ⟨#[]⟩, .string ⟨#[]⟩, .string ⟨#[]⟩, .string ⟨nm.toArray⟩, .string ⟨src.toArray⟩, vb, .bool false] 116)) := (Below.refl _ _).alloc (Nat.le_refl _) _
  refine ⟨_, rfl, ?_, ?_⟩
  · unfold As.join
    rw [if_neg (by decide)]
    show As.RdQ _ _ _ (y.p ++ [_])
    rw [hy, List.nil_append]
    exact As.RdQ.made (ps := [⟨false, As.no, b, 5, nm, src⟩]) (cs := As.rcells ⟨false, As.no, b, 5, nm, src⟩ vb) hz.size ⟨vb, [], by simp, hr, rfl⟩ (by simp)
  · have h2 := hz.kept hal
    exact ⟨⟨h2.rk.obj⟩, h2.fr⟩
set_option maxRecDepth 100000 in
set_option maxHeartbeats 8000000 in
theorem rdata_span {w : World} {g : Nat} {x : As.L} (h : As.Rk w g x) (hp : x.p = []) (hsh : As.Short x.l) (a : Nat) :
    Calls Tryz.prog 92 #[.string ⟨#[115, 112, 97, 110]⟩, .pointer (some ⟨g, 0, none⟩), .int .u32 (a : Int)] w (As.RDPost w g As.tSpan (As.data As.tSpan a x)) := by
  have HP := Lib.hid (show As.data As.tSpan a x = some (As.put ⟨false, As.no, [0, 0, 0, 0], 5, (As.name (As.name x).2).1, (As.name x).1⟩ (As.name (As.name x).2).2) from by unfold As.data; rw [if_neg (by decide), if_neg (by decide), if_neg (by decide), if_neg (by decide), if_neg (by decide), if_pos rfl])
  have HZ0 := Lib.hid (As.Rz.start h)
  have HS0 := Lib.hid hsh
  have HY := Lib.hid (show (As.name (As.name x).2).2.p = [] from by rw [As.name_p, As.name_p]; exact hp)
  clear h hsh hp
  rw [HP.out]
  clear HP
  go_enter Tryz.func92, Tryz.ntmps92
  go_wp2_with fail
  go_at_call 151
  refine (rrdname_any HZ0.out.rk HS0.out).mono ?_
  rintro e w1 ⟨rfl, g1⟩
  have HZ1 := Lib.hid (HZ0.out.step g1)
  have HS1 := Lib.hid HS0.out.name
  clear g1
  generalize As.name x = E1 at *
  obtain ⟨na, x1⟩ := E1
  dsimp only at HZ1 HS1 HY ⊢
  go_wp2_with fail
  go_at_call 151
  refine (rrdname_any HZ1.out.rk HS1.out).mono ?_
  rintro e w2 ⟨rfl, g2⟩
  have HZ2 := Lib.hid (HZ1.out.step g2)
  clear g2
  generalize As.name x1 = E2 at *
  obtain ⟨nb, x2⟩ := E2
  dsimp only at HZ2 HY ⊢
  go_wp2_with fail
  go_at_call 94
  refine (As.rfour_int w2 0 (by decide) (by decide)).mono ?_
  rintro e w3 ⟨rfl, hw3⟩
  have hvb : As.RdB1 w.heap.size w3 (.slice (some ⟨w2.heap.size, 0, none⟩) 4 4) [0, 0, 0, 0] := by rw [hw3]; exact As.RdB1.fresh w2 [0, 0, 0, 0] (by decide) _ HZ2.out.size
  have hb3 : Below w2.heap.size w2 w3 := by rw [hw3]; exact (Below.refl _ _).alloc (Nat.le_refl _) _
  have HVB := Lib.hid hvb
  have HZ3 := Lib.hid (HZ2.out.kept hb3)
  clear hw3 hvb hb3
  go_wp2_with fail
  go_ret2
  exact As.RDPost.span HZ3.out HVB.out HY.out rfl
set_option maxRecDepth 100000 in
set_option maxHeartbeats 4000000 in
theorem rdata_none {w : World} {g : Nat} {x : As.L} (s : List UInt8) (a : Nat) (hs : As.data s a x = none) :
    Calls Tryz.prog 92 #[.string ⟨s.toArray⟩, .pointer (some ⟨g, 0, none⟩), .int .u32 (a : Int)] w (As.RDPost w g s none) := by
  have n0 : s ≠ As.tWord := fun e => by subst e; exact absurd hs (by unfold As.data; rw [if_pos rfl]; exact Option.some_ne_none _)
  have n1 : s ≠ As.tByte := fun e => by subst e; exact absurd hs (by unfold As.data; rw [if_neg (by decide), if_pos rfl]; exact Option.some_ne_none _)
  have n2 : s ≠ As.tText := fun e => by subst e; exact absurd hs (by unfold As.data; rw [if_neg (by decide), if_neg (by decide), if_pos rfl]; exact Option.some_ne_none _)
  have n3 : s ≠ As.tSpace := fun e => by subst e; exact absurd hs (by unfold As.data; rw [if_neg (by decide), if_neg (by decide), if_neg (by decide), if_pos rfl]; exact Option.some_ne_none _)
  have n4 : s ≠ As.tAlign := fun e => by subst e; exact absurd hs (by unfold As.data; rw [if_neg (by decide), if_neg (by decide), if_neg (by decide), if_neg (by decide), if_pos rfl]; exact Option.some_ne_none _)
  have n5 : s ≠ As.tSpan := fun e => by subst e; exact absurd hs (by unfold As.data; rw [if_neg (by decide), if_neg (by decide), if_neg (by decide), if_neg (by decide), if_neg (by decide), if_pos rfl]; exact Option.some_ne_none _)
  have a0 : (s == [119, 111, 114, 100]) = false := (show (s == As.tWord) = false from by simpa using n0)
  have a1 : (s == [98, 121, 116, 101]) = false := (show (s == As.tByte) = false from by simpa using n1)
  have a2 : (s == [116, 101, 120, 116]) = false := (show (s == As.tText) = false from by simpa using n2)
  have a3 : (s == [115, 112, 97, 99, 101]) = false := (show (s == As.tSpace) = false from by simpa using n3)
  have a4 : (s == [97, 108, 105, 103, 110]) = false := (show (s == As.tAlign) = false from by simpa using n4)
  have a5 : (s == [115, 112, 97, 110]) = false := (show (s == As.tSpan) = false from by simpa using n5)
  have b0 : (!s == [119, 111, 114, 100]) = true := by rw [a0]; rfl
  have b1 : (!s == [98, 121, 116, 101]) = true := by rw [a1]; rfl
  have b2 : (!s == [116, 101, 120, 116]) = true := by rw [a2]; rfl
  have b3 : (!s == [115, 112, 97, 99, 101]) = true := by rw [a3]; rfl
  have b4 : (!s == [97, 108, 105, 103, 110]) = true := by rw [a4]; rfl
  have b5 : (!s == [115, 112, 97, 110]) = true := by rw [a5]; rfl
  clear hs n0 n1 n2 n3 n4 n5
  go_enter Tryz.func92, Tryz.ntmps92
  go_wp2_with fail
  go_ret2
  exact ⟨rfl, rfl⟩
theorem rdata_any {w : World} {g : Nat} {x : As.L} (h : As.Rk w g x) (hp : x.p = []) (hsh : As.Short x.l) (hl : x.l.length ≤ 10000000) (s : List UInt8) (a : Nat) (ha : a < 4294967296) :
    Calls Tryz.prog 92 #[.string ⟨s.toArray⟩, .pointer (some ⟨g, 0, none⟩), .int .u32 (a : Int)] w (As.RDPost w g s (As.data s a x)) := by
  by_cases n0 : s = As.tWord
  · subst n0; exact rdata_word h hp hsh hl a ha
  by_cases n1 : s = As.tByte
  · subst n1; exact rdata_byte h hp hsh hl a ha
  by_cases n2 : s = As.tText
  · subst n2; exact rdata_text h hp hsh a
  by_cases n3 : s = As.tSpace
  · subst n3; exact rdata_space h hp hsh a
  by_cases n4 : s = As.tAlign
  · subst n4; exact rdata_align h hp a ha
  by_cases n5 : s = As.tSpan
  · subst n5; exact rdata_span h hp hsh a
  have e : As.data s a x = none := by unfold As.data; rw [if_neg n0, if_neg n1, if_neg n2, if_neg n3, if_neg n4, if_neg n5]
  rw [e]
  exact rdata_none s a e
set_option maxRecDepth 100000 in
theorem rdone_any {w : World} {g : Nat} {y : As.L} (h : As.Rk w g y) :
    Calls Tryz.prog 93 #[.pointer (some ⟨g, 0, none⟩)] w fun e w' => e = .returned (.bool (y.ok && decide (y.l = []))) ∧ Below w.heap.size w w' := by
  obtain ⟨A, n, c, k, hsee⟩ := h.see
  have c0 := hsee.c0
  have c1 := hsee.c1
  have c2 := hsee.c2
  have HV := Lib.hid (show decide (y.l = []) = ((k : Int) == (n : Int)) from by
    have h1 := hsee.le
    have h2 := hsee.len
    rw [Bool.eq_iff_iff, decide_eq_true_eq, beq_iff_eq, ← List.length_eq_zero_iff]
    omega)
  obtain ⟨yl, yo, yp⟩ := y
  dsimp only at c2 HV ⊢
  clear h hsee
  cases yo
  · go_enter Tryz.func93, Tryz.ntmps93
    go_wp2_with fail
    go_quiet (fail)
    go_wp2_with fail
    go_ret
    exact ⟨rfl, isDrewN6 (Below.refl _ _) _⟩
  · go_enter Tryz.func93, Tryz.ntmps93
    go_wp2_with fail
    go_quiet (fail)
    go_wp2_with fail
    go_ret
    exact ⟨asret_bool (by rw [HV.out]; simp), isDrewN6 (Below.refl _ _) _⟩
end Go.Proofs.YtpcpaoeajcjoiaaGreatDoor
/- Layer 7: the document's pieces of a line. -/
namespace Go.Proofs.YtpcpaoeajcjoiaaGreatDoor
open Go.RowKit Kit
set_option linter.unusedVariables false
set_option linter.unusedSimpArgs false

/-- What the document's pieces hands back. -/
def As.RPcPost (w : World) (r : Option (List As.P)) (e : Ending) (w' : World) : Prop :=
  match r with
  | none => e = .returned (.tuple #[.slice none 0 0, .int .i64 40]) ∧ Below w.heap.size w w'
  | some ps => ∃ v, e = .returned (.tuple #[v, .int .i64 0]) ∧ As.RdQ w.heap.size w' v ps ∧ Below w.heap.size w w'
theorem As.rk_start (w : World) (t : TypeId) (cs : Array Value) (va : Value) (l : List (List UInt8)) (h : RdS w va l) :
    As.Rk ((w.alloc (.cells cs t)).alloc (.cells #[va, .int .i64 0, .bool true] 184)) (w.heap.size + 1) ⟨l, true, []⟩ := by
  have h0 : Below w.heap.size w (w.alloc (.cells cs t)) := (Below.refl _ _).alloc (Nat.le_refl _) _
  have h1 : Below w.heap.size w ((w.alloc (.cells cs t)).alloc (.cells #[va, .int .i64 0, .bool true] 184)) := h0.alloc (by simp) _
  have hbk := Bk.fresh (w.alloc (.cells cs t)) 184 #[va, .int .i64 0, .bool true]
  rw [World.size_alloc] at hbk
  refine ⟨⟨va, l, 0, hbk, h.kept h1, Nat.zero_le _, rfl, fun g off n c e hn => ?_⟩⟩
  obtain ⟨_, A', c', e', _, _, h4⟩ := h
  rw [e] at e'
  injection e' with e1 e2 e3
  obtain ⟨g', off', e4, hlt, _⟩ := h4 (by omega)
  rw [← e1] at e4
  injection e4 with e4
  injection e4 with e4 _
  omega
/-- Behind the words: is all taken? -/
structure As.RTail (w : World) (g : Nat) (v : Value) (ps : List As.P) (y : As.L) (W : World) : Prop where
  rk : As.Rk W g y
  q : As.RdQ w.heap.size W v ps
  b : Below w.heap.size w W
theorem As.RTail.of {w W3 W4 : World} {g : Nat} {v : Value} {ps : List As.P} {y : As.L} (hg : w.heap.size ≤ g) (hb : Below w.heap.size w W3) (h : As.RGo W3 g y W4) (q : As.RdQ W3.heap.size W4 v ps) : As.RTail w g v ps y W4 :=
  ⟨h.1, q.mono hb.size, hb.trans (h.2.below (fun k e => e ▸ hg) hb.size)⟩
theorem As.inst_bytes {op : Int} {x y : As.L} {p : As.P} (h : As.inst op x = As.put p y) : p.bytes = [] := by
  have key : ∀ {q : As.P} {z : As.L}, As.put q z = As.put p y → q = p := fun {q z} e => by
    have e2 : z.p ++ [q] = y.p ++ [p] := congrArg As.L.p e
    have := congrArg List.getLast? e2
    simpa using this
  unfold As.inst at h
  (repeat' split at h) <;> first
    | (unfold As.code at h; rw [← key h])
    | (unfold As.to at h; rw [← key h])
set_option maxRecDepth 100000 in
set_option maxHeartbeats 8000000 in
theorem rpieces_any (vl va : Value) (x : L6.Line) (a : Nat) (w : World) (h : RdS w va x.args) (hvl : ∃ A n c, vl = .slice A n c) (hl : x.args.length ≤ 10000000) (hlo : As.Lo x.args) (hw32 : x.word.length ≤ maxLen) (ha : a < 4294967296) :
    Calls Tryz.prog 48 #[.agg #[vl, .string ⟨x.word.toArray⟩, va], .int .u32 (a : Int)] w (As.RPcPost w (As.rpieces x a)) := by
  obtain ⟨xl, xw, xa⟩ := x
  obtain ⟨A0, n0, c0', rfl⟩ := hvl
  dsimp only at h hl hlo hw32 ⊢
  have hal : Below w.heap.size w (w.alloc (.cells #[.slice A0 n0 c0', .string ⟨xw.toArray⟩, va] 93)) := (Below.refl _ _).alloc (Nat.le_refl _) _
  have hbk := Bk.fresh w 93 #[.slice A0 n0 c0', .string ⟨xw.toArray⟩, va]
  by_cases hw : xw = []
  · subst hw
    have HP := Lib.hid (show As.rpieces ⟨xl, [], xa⟩ a = some [] from by unfold As.rpieces As.pieces; rw [if_pos rfl]; rfl)
    have b1 := hbk.cell 1
    have HAL := Lib.hid hal
    clear h hl hlo hal hbk
    go_enter Tryz.func48, Tryz.ntmps48
    go_wp2_with fail
    go_ret2
    rw [HP.out]
    exact ⟨_, rfl, As.RdQ.nil _ _, HAL.out⟩
  · have e1 : (xw == ([] : List UInt8)) = false := by simpa using hw
    have e2 : (!xw == ([] : List UInt8)) = true := by simpa using hw
    have e3 : xw.isEmpty = false := by simpa using hw
    have HP := Lib.hid (show ∀ r, As.read xw a ⟨xa, true, []⟩ = r → As.rpieces ⟨xl, xw, xa⟩ a = (match r with | none => none | some y => (As.done y).map (As.join xw)) from fun r hr => by
      unfold As.rpieces As.pieces
      rw [if_neg hw]
      dsimp only
      rw [hr]
      cases r with
      | none => rfl
      | some y => dsimp only; cases As.done y <;> simp [hw])
    have hm := As.rk_start w 93 #[.slice A0 n0 c0', .string ⟨xw.toArray⟩, va] va xa h
    have hal2 : Below w.heap.size w ((w.alloc (.cells #[.slice A0 n0 c0', .string ⟨xw.toArray⟩, va] 93)).alloc (.cells #[va, .int .i64 0, .bool true] 184)) := hal.alloc (by simp) _
    have hbk2 : Bk ((w.alloc (.cells #[.slice A0 n0 c0', .string ⟨xw.toArray⟩, va] 93)).alloc (.cells #[va, .int .i64 0, .bool true] 184)) w.heap.size 93 #[.slice A0 n0 c0', .string ⟨xw.toArray⟩, va] := hbk.kept ((Below.refl _ _).alloc (Nat.le_refl _) _)
    obtain ⟨AA, cA, rfl⟩ := Rd.form h
    have b0 := hbk.cell 0
    have b1 := hbk.cell 1
    have b2 := hbk.cell 2
    have HM := Lib.hid hm
    have HB2 := Lib.hid hal2
    have HK2 := Lib.hid hbk2
    have HSH := Lib.hid (show As.Short xa from fun s hs => Nat.le_trans (hlo s hs) (by decide))
    have HL := Lib.hid hl
    have CB := Lib.hid (fun W => rbyname_any ⟨xw.toArray⟩ W hw32)
    clear h hl hlo hal hal2 hbk hbk2 hm hw
    go_enter Tryz.func48, Tryz.ntmps48
    go_wp2_with fail
    obtain ⟨W2, hW2⟩ : ∃ W2, (w.alloc (.cells #[.slice A0 n0 c0', .string ⟨xw.toArray⟩, .slice AA xa.length cA] 93)).alloc (.cells #[.slice AA xa.length cA, .int .i64 0, .bool true] 184) = W2 := ⟨_, rfl⟩
    rw [hW2] at HM HB2 HK2 ⊢
    clear hW2 b0 b1 b2
    have b1 := HK2.out.cell 1
    go_wp2_with fail
    go_at_call 89
    refine (CB.out _).mono ?_
    rintro e w3 ⟨rfl, hb3⟩
    have HM3 := Lib.hid (HM.out.kept hb3)
    have HB3 := Lib.hid (show Below w.heap.size w w3 from HB2.out.trans (hb3.mono HB2.out.size))
    have hk3 := HK2.out.kept hb3
    have d1 := hk3.cell 1
    clear hb3 hk3
    cases hn : Is.isName ⟨xw.toArray⟩
    · cases hp : As.pseudo xw ⟨xa, true, []⟩ with
      | some y =>
        have CP := Lib.hid (show Calls Tryz.prog 91 #[.string ⟨xw.toArray⟩, .pointer (some ⟨w.heap.size + 1, 0, none⟩)] w3 (As.RPPost w3 (w.heap.size + 1) (some y)) from by rw [← hp]; exact rpseudo_any HM3.out rfl HSH.out xw)
        have HJ := Lib.hid (show ∀ p, As.join xw p = p from fun p => by unfold As.join; rw [if_neg (fun e => by rw [e, As.byte_pseudo] at hp; cases hp)])
        have HQ := Lib.hid (HP.out _ (show As.read xw a ⟨xa, true, []⟩ = some y from by unfold As.read; rw [if_neg (by rw [hn]; decide), hp]))
        clear hn hp
        go_wp2_with fail
        go_at_call 91
        refine CP.out.mono ?_
        rintro e w4 ⟨v, rfl, hq, hgo⟩
        have HT := Lib.hid (As.RTail.of (Nat.le_succ _) HB3.out hgo hq)
        have HV := Lib.hid (show As.rpieces ⟨xl, xw, xa⟩ a = (As.done y).map (As.join xw) from HQ.out)
        have HW := Lib.hid (show As.RdQ w.heap.size w4 v (As.join xw y.p) from by rw [HJ.out]; exact HT.out.q)
        obtain ⟨Av, cv, rfl⟩ := hq.form
        clear hq hgo
        go_wp2_with fail
        go_at_call 93
        refine (rdone_any HT.out.rk).mono ?_
        rintro e w5 ⟨rfl, hb5⟩
        have HB5 := Lib.hid (HT.out.b.trans (hb5.mono HT.out.b.size))
        have HQ5 := Lib.hid (HW.out.kept hb5)
        clear hb5
        cases hdn : y.ok && decide (y.l = [])
        · have HR := Lib.hid (show As.rpieces ⟨xl, xw, xa⟩ a = none from by
            rw [HV.out]
            unfold As.done
            rw [if_neg (fun e => by rw [e.1, decide_eq_true e.2] at hdn; cases hdn)]
            rfl)
          go_wp2_with fail
          go_ret2
          rw [HR.out]
          exact ⟨rfl, HB5.out⟩
        · have HR := Lib.hid (show As.rpieces ⟨xl, xw, xa⟩ a = some (As.join xw y.p) from by
            rw [HV.out]
            unfold As.done
            rw [Bool.and_eq_true, decide_eq_true_eq] at hdn
            rw [if_pos hdn]
            rfl)
          go_wp2_with fail
          go_ret2
          rw [HR.out]
          exact ⟨_, rfl, HQ5.out, HB5.out⟩
      | none =>
        have CP := Lib.hid (show Calls Tryz.prog 91 #[.string ⟨xw.toArray⟩, .pointer (some ⟨w.heap.size + 1, 0, none⟩)] w3 (As.RPPost w3 (w.heap.size + 1) none) from rpseudo_none xw hp)
        cases hd : As.data xw a ⟨xa, true, []⟩ with
        | some y =>
          have CD := Lib.hid (show ∀ W, As.Rk W (w.heap.size + 1) ⟨xa, true, []⟩ → Calls Tryz.prog 92 #[.string ⟨xw.toArray⟩, .pointer (some ⟨w.heap.size + 1, 0, none⟩), .int .u32 (a : Int)] W (As.RDPost W (w.heap.size + 1) xw (some y)) from fun W hW => by rw [← hd]; exact rdata_any hW rfl HSH.out HL.out xw a ha)
          have HQ := Lib.hid (HP.out _ (show As.read xw a ⟨xa, true, []⟩ = some y from by unfold As.read; rw [if_neg (by rw [hn]; decide), hp]; exact hd))
          clear hn hp hd
          go_wp2_with fail
          go_at_call 91
          refine CP.out.mono ?_
          rintro e w' ⟨rfl, rfl⟩
          go_wp2_with fail
          go_at_call 92
          refine (CD.out _ HM3.out).mono ?_
          rintro e w4 ⟨v, rfl, hq, hgo⟩
          have HT := Lib.hid (As.RTail.of (Nat.le_succ _) HB3.out hgo hq)
          have HV := Lib.hid (show As.rpieces ⟨xl, xw, xa⟩ a = (As.done y).map (As.join xw) from HQ.out)
          have HW := Lib.hid (show As.RdQ w.heap.size w4 v (As.join xw y.p) from HT.out.q)
          obtain ⟨Av, cv, rfl⟩ := hq.form
          clear hq hgo
          go_wp2_with fail
          go_at_call 93
          refine (rdone_any HT.out.rk).mono ?_
          rintro e w5 ⟨rfl, hb5⟩
          have HB5 := Lib.hid (HT.out.b.trans (hb5.mono HT.out.b.size))
          have HQ5 := Lib.hid (HW.out.kept hb5)
          clear hb5
          cases hdn : y.ok && decide (y.l = [])
          · have HR := Lib.hid (show As.rpieces ⟨xl, xw, xa⟩ a = none from by
              rw [HV.out]
              unfold As.done
              rw [if_neg (fun e => by rw [e.1, decide_eq_true e.2] at hdn; cases hdn)]
              rfl)
            go_wp2_with fail
            go_ret2
            rw [HR.out]
            exact ⟨rfl, HB5.out⟩
          · have HR := Lib.hid (show As.rpieces ⟨xl, xw, xa⟩ a = some (As.join xw y.p) from by
              rw [HV.out]
              unfold As.done
              rw [Bool.and_eq_true, decide_eq_true_eq] at hdn
              rw [if_pos hdn]
              rfl)
            go_wp2_with fail
            go_ret2
            rw [HR.out]
            exact ⟨_, rfl, HQ5.out, HB5.out⟩
        | none =>
          have CD := Lib.hid (show ∀ W, Calls Tryz.prog 92 #[.string ⟨xw.toArray⟩, .pointer (some ⟨w.heap.size + 1, 0, none⟩), .int .u32 (a : Int)] W (As.RDPost W (w.heap.size + 1) xw none) from fun W => rdata_none xw a hd)
          have HQ := Lib.hid (HP.out _ (show As.read xw a ⟨xa, true, []⟩ = none from by unfold As.read; rw [if_neg (by rw [hn]; decide), hp]; exact hd))
          clear hn hp hd
          go_wp2_with fail
          go_at_call 91
          refine CP.out.mono ?_
          rintro e w' ⟨rfl, rfl⟩
          go_wp2_with fail
          go_at_call 92
          refine (CD.out _).mono ?_
          rintro e w' ⟨rfl, rfl⟩
          go_wp2_with fail
          go_ret2
          rw [HQ.out]
          exact ⟨rfl, HB3.out⟩
    · obtain ⟨p, y0, hi1, hi2, hi3⟩ := rinst_any HM3.out HSH.out (Is.found ⟨xw.toArray⟩)
      have CI := Lib.hid (show Calls Tryz.prog 90 #[.int .i64 (Is.found ⟨xw.toArray⟩), .pointer (some ⟨w.heap.size + 1, 0, none⟩)] w3 (fun e w' => e = .returned (.agg #[.int .i64 p.inst.op, .int .i64 p.inst.rd, .int .i64 p.inst.rs1, .int .i64 p.inst.rs2, .int .i64 p.inst.imm, .string ⟨(As.rgoal 1 p).toArray⟩, .string ⟨(As.rgoal 2 p).toArray⟩, .string ⟨(As.rgoal 3 p).toArray⟩, .string ⟨(As.rplace p).toArray⟩, .string ⟨p.src.toArray⟩, .slice none 0 0, .bool p.code]) ∧ As.RGo w3 (w.heap.size + 1) y0 w') from hi3)
      have HQ := Lib.hid (HP.out _ (show As.read xw a ⟨xa, true, []⟩ = some (As.put p y0) from by unfold As.read; rw [if_pos hn, hi1]))
      have HJ := Lib.hid (show ∀ p, As.join xw p = p from fun p => by unfold As.join; rw [if_neg (fun e => by rw [e, As.byte_name] at hn; cases hn)])
      have HPB := Lib.hid (show p.bytes = [] from As.inst_bytes hi1)
      have HY0 := Lib.hid (show y0.p = [] from hi2)
      clear hn hi1 hi2 hi3
      go_wp2_with fail
      go_at_call 90
      refine CI.out.mono ?_
      rintro e w35 ⟨rfl, hgo⟩
      have hq := As.RdQ.made (B := w3.heap.size) (W := w35) (ps := [p]) (cs := As.rcells p (.slice none 0 0)) hgo.2.size ⟨.slice none 0 0, [], by simp, by rw [HPB.out]; exact As.RdB1.nil _ _, rfl⟩ (by simp)
      have hgo2 : As.RGo w3 (w.heap.size + 1) (As.put p y0) (w35.alloc (.cells (As.rcells p (.slice none 0 0)).toArray 116)) := by
        have h2 := hgo.kept ((Below.refl _ _).alloc (Nat.le_refl _) (.cells (As.rcells p (.slice none 0 0)).toArray 116))
        exact ⟨⟨h2.1.obj⟩, h2.2⟩
      have hqq : As.RdQ w3.heap.size (w35.alloc (.cells (As.rcells p (.slice none 0 0)).toArray 116)) (.slice (some ⟨w35.heap.size, 0, none⟩) 1 1) (As.put p y0).p := by
        show As.RdQ _ _ _ (y0.p ++ [p])
        rw [HY0.out]; exact hq
      have HT := Lib.hid (As.RTail.of (Nat.le_succ _) HB3.out hgo2 hqq)
      have HV := Lib.hid (show As.rpieces ⟨xl, xw, xa⟩ a = (As.done (As.put p y0)).map (As.join xw) from HQ.out)
      have HW := Lib.hid (show As.RdQ w.heap.size (w35.alloc (.cells (As.rcells p (.slice none 0 0)).toArray 116)) (.slice (some ⟨w35.heap.size, 0, none⟩) 1 1) (As.join xw (As.put p y0).p) from by rw [HJ.out]; exact HT.out.q)
      obtain ⟨y, hy⟩ : ∃ y, As.put p y0 = y := ⟨_, rfl⟩
      rw [hy] at HT HV HW
      clear hq hqq hgo hgo2 hy HQ
      go_wp2_with fail
      obtain ⟨w4, hw4⟩ : ∃ w4, w35.alloc (.cells #[.int .i64 p.inst.op, .int .i64 p.inst.rd, .int .i64 p.inst.rs1, .int .i64 p.inst.rs2, .int .i64 p.inst.imm, .string ⟨(As.rgoal 1 p).toArray⟩, .string ⟨(As.rgoal 2 p).toArray⟩, .string ⟨(As.rgoal 3 p).toArray⟩, .string ⟨(As.rplace p).toArray⟩, .string ⟨p.src.toArray⟩, .slice none 0 0, .bool p.code] 116) = w4 := ⟨_, rfl⟩
      have HT := Lib.hid (show As.RTail w (w.heap.size + 1) _ _ y w4 from hw4 ▸ HT.out)
      have HW := Lib.hid (show As.RdQ w.heap.size w4 (.slice (some ⟨w35.heap.size, 0, none⟩) 1 1) (As.join xw y.p) from hw4 ▸ HW.out)
      rw [hw4]
      clear hw4
      go_at_call 93
      refine (rdone_any HT.out.rk).mono ?_
      rintro e w5 ⟨rfl, hb5⟩
      have HB5 := Lib.hid (HT.out.b.trans (hb5.mono HT.out.b.size))
      have HQ5 := Lib.hid (HW.out.kept hb5)
      clear hb5
      cases hdn : y.ok && decide (y.l = [])
      · have HR := Lib.hid (show As.rpieces ⟨xl, xw, xa⟩ a = none from by
          rw [HV.out]
          unfold As.done
          rw [if_neg (fun e => by rw [e.1, decide_eq_true e.2] at hdn; cases hdn)]
          rfl)
        go_wp2_with fail
        go_ret2
        rw [HR.out]
        exact ⟨rfl, HB5.out⟩
      · have HR := Lib.hid (show As.rpieces ⟨xl, xw, xa⟩ a = some (As.join xw y.p) from by
          rw [HV.out]
          unfold As.done
          rw [Bool.and_eq_true, decide_eq_true_eq] at hdn
          rw [if_pos hdn]
          rfl)
        go_wp2_with fail
        go_ret2
        rw [HR.out]
        exact ⟨_, rfl, HQ5.out, HB5.out⟩
end Go.Proofs.YtpcpaoeajcjoiaaGreatDoor
