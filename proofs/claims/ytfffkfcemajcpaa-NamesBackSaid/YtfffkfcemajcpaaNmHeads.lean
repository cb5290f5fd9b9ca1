/- The walk of the law NamesHeads. -/
import Derived.Test.YtfffkfcemajcpaaNmRefRead2
import Derived.Test.YtfffkfcemajcpaaNmOpen
import Derived.Test.YtfffkfcemajcpaaKitOpen
namespace Go.Proofs.Ytfffkfcemajcpaa
open Go.RowKit Kit
set_option linter.unusedVariables false
set_option linter.unusedSimpArgs false

theorem read_own_rd (v : Value) (l : List UInt8) (w : World) (h : RdB w v l) (h2000 : l.length ≤ 2000) :
    Calls Try.prog 35 #[v] w fun e w' => e = .returned (Nm.readV l) ∧ Below w.heap.size w w' := by
  rcases h with ⟨a, c, rfl, rfl⟩ | ⟨g, off, cap, rfl, hg, hl, hm, hc⟩
  · rw [Nm.readV_bad (by decide)]
    exact read_short _ [] w (.inl ⟨a, c, rfl, rfl⟩) (by decide)
  · exact read_own g off cap l w hc hg hl hm h2000
theorem read_ref_rd (v : Value) (l : List UInt8) (w : World) (h : RdB w v l) (h2000 : l.length ≤ 2000) :
    Calls Try.prog 36 #[v] w fun e w' => e = .returned (Nm.readV l) ∧ Below w.heap.size w w' := by
  rcases h with ⟨a, c, rfl, rfl⟩ | ⟨g, off, cap, rfl, hg, hl, hm, hc⟩
  · rw [Nm.readV_bad (by decide)]
    go_enter Try.func36, Try.ntmps36
    go_wp2
    exact bodyPost_ret (v := .tuple #[hv0, .int .i64 0, .int .i64 45]) (by simp [results, Try.results36, go_sem]) rfl ⟨rfl, (Below.refl _ _).alloc (Nat.le_refl _) _⟩
  · exact read_ref g off cap l w hc hg hl hm h2000
theorem Nm.readV_shape (l : List UInt8) : ∃ (s : ByteArray) (f a b c N : Nat) (E : Int), Nm.readV l = .tuple #[hv s f a b c, .int .i64 N, .int .i64 E] := by
  unfold Nm.readV
  split
  · exact ⟨_, _, _, _, _, _, _, rfl⟩
  · exact ⟨⟨#[]⟩, 0, 0, 0, 0, 0, 45, rfl⟩

set_option maxHeartbeats 4000000 in
theorem core_namesHeads (s : ByteArray) (fl : Int) (a b c : Nat) (vb : Value) (l : List UInt8) (w : World) (hs : s.size ≤ maxLen) (ha : a < 4294967296) (hb : b < 4294967296) (hc : c < 4294967296) (hl : RdB w vb l) (hlm : l.length ≤ maxLen) :
    Calls Try.prog 8 #[hv s fl a b c, vb] w fun e w' => e = .returned (.bool true) ∧ Below w.heap.size w w' := by
  have hm := hs
  unfold maxLen at hm hlm
  obtain ⟨ab, cb, hvb⟩ := hl.length
  by_cases h : 2000 < s.size
  · subst hvb
    generalize l.length = n at *
    go_enter Try.func8, Try.ntmps8
    go_wp2_with (go_at_call 17; refine (knows_any _).mono ?_; rintro e w' ⟨rfl, hb⟩)
    go_ret
    exact ⟨rfl, ((Below.refl _ _).alloc (Nat.le_refl _) _).trans (hb.mono (by simp))⟩
  by_cases h' : 2000 < l.length
  · subst hvb
    generalize l.length = n at *
    go_enter Try.func8, Try.ntmps8
    go_wp2_with (go_at_call 17; refine (knows_any _).mono ?_; rintro e w' ⟨rfl, hb⟩)
    go_ret
    exact ⟨rfl, ((Below.refl _ _).alloc (Nat.le_refl _) _).trans (hb.mono (by simp))⟩
  have h2000 : l.length ≤ 2000 := by omega
  obtain ⟨s', f', a', b', c', N', E', hR⟩ := Nm.readV_shape l
  have HR := Lib.hid (fun (v : Value) (w : World) h => read_own_rd v l w h h2000)
  have HRr := Lib.hid (fun (v : Value) (w : World) h => read_ref_rd v l w h h2000)
  rw [hR] at HR HRr
  clear hR
  have HL := Lib.hid hl; have HV := Lib.hid hvb
  have h20 : (l.length : Int) ≤ 2000 := by omega
  have H2 := Lib.hid (show ∀ W', Below (w.heap.size + 1) (w.alloc (.cells #[.string s, .int .i64 fl, .int .u32 a, .int .u32 b, .int .u32 c] 38)) W' →
      W'.cell? ⟨w.heap.size, 0, none⟩ = some (.string s) ∧ W'.cell? ⟨w.heap.size, 1, none⟩ = some (.int .i64 fl) ∧ W'.cell? ⟨w.heap.size, 2, none⟩ = some (.int .u32 a) ∧ W'.cell? ⟨w.heap.size, 3, none⟩ = some (.int .u32 b) ∧ W'.cell? ⟨w.heap.size, 4, none⟩ = some (.int .u32 c) from fun W' hb =>
    ⟨(hb.cell (p := ⟨w.heap.size, 0, none⟩) (by simp)).trans (by go_simp), (hb.cell (p := ⟨w.heap.size, 1, none⟩) (by simp)).trans (by go_simp), (hb.cell (p := ⟨w.heap.size, 2, none⟩) (by simp)).trans (by go_simp), (hb.cell (p := ⟨w.heap.size, 3, none⟩) (by simp)).trans (by go_simp), (hb.cell (p := ⟨w.heap.size, 4, none⟩) (by simp)).trans (by go_simp)⟩)
  have HB0 := Lib.hid (show Below w.heap.size w (w.alloc (.cells #[.string s, .int .i64 fl, .int .u32 a, .int .u32 b, .int .u32 c] 38)) from (Below.refl _ _).alloc (Nat.le_refl _) _)
  clear hl h'
  have hvb' := hvb
  clear hvb
  subst hvb'
  go_enter Try.func8, Try.ntmps8
  go_wp2_with fail
  refine (own_any s fl a b c _).mono ?_
  rintro e w1 ⟨rfl, hb1⟩
  simp only [World.size_alloc] at hb1
  go_wp2_with fail
  refine (bytes_any s fl a b c _ hs ha hb hc).mono ?_
  rintro e w2 ⟨v, rfl, ho, hb2⟩
  have z1 := hb1.size
  simp only [World.size_alloc] at z1
  have hB2 := hb1.trans (hb2.mono z1)
  obtain ⟨q0, q1, q2, q3, q4⟩ := H2.out _ hB2
  have HB2 := Lib.hid hB2; have HO := Lib.hid ho; clear hB2 hb2 hb1 ho
  go_wp2_with fail
  refine (refBytes_any s fl a b c _ hs ha hb hc).mono ?_
  rintro e w3 ⟨v', rfl, ho', hb3⟩
  have z2 := HB2.out.size
  simp only [World.size_alloc] at z2
  have HO1 := Lib.hid (HO.out.rd.below hb3)
  have HO2 := Lib.hid ho'.rd
  have HB3 := Lib.hid (HB2.out.trans (hb3.mono z2))
  have z3 := HB3.out.size
  simp only [World.size_alloc] at z3
  clear q0 q1 q2 q3 q4 HB2 HO ho' hb3
  have HL3 := Lib.hid (HL.out.below (HB0.out.trans (HB3.out.mono (by omega))))
  go_wp2_with (at_builtin; refine wpList_appendB rfl _ _ _ _ rfl bt (w3.heap.size) _ rfl [] ?hown _ rfl l ?hsrc ?hl ?hb ?_)
  case hown => exact OwnB.built w3 5 #[] [] rfl (Nat.zero_le _) (Nat.le_refl _)
  case hsrc => exact src_of_rd bt (HL3.out.below ((Below.refl _ _).alloc (Nat.le_refl _) _))
  case hl => simp; omega
  case hb => simp
  intro v4 w4 ho4 hb4 _
  have HB4 := Lib.hid (show Below w3.heap.size w3 w4 from ((Below.refl _ _).alloc (Nat.le_refl _) _).trans hb4)
  have z4 := HB4.out.size
  have HO4 := Lib.hid ho4.rd
  clear hb4 ho4
  go_wp2_with fail
  refine (HR.out _ _ HO4.out).mono ?_
  rintro e w5 ⟨rfl, hb5⟩
  have HB5 := Lib.hid (HB4.out.trans (hb5.mono z4))
  have z5 := HB5.out.size
  have HO5 := Lib.hid (HO4.out.below hb5)
  clear hb5
  have HL5 := Lib.hid (HL3.out.below HB5.out)
  have HL5' := Lib.hid (HL5.out.below ((Below.refl w5.heap.size w5).alloc (Nat.le_refl _) (.cells #[.string s', .int .i64 f', .int .u32 a', .int .u32 b', .int .u32 c'] 41)))
  go_wp2_with fail
  refine (HRr.out _ _ HL5'.out).mono ?_
  rintro e w6 ⟨rfl, hb6⟩
  simp only [World.size_alloc] at hb6
  have z6 := hb6.size
  simp only [World.size_alloc] at z6
  have HF6 := Lib.hid (show ∀ W', Below (w6.heap.size + 1) (w6.alloc (.cells #[.string s', .int .i64 f', .int .u32 a', .int .u32 b', .int .u32 c'] 38)) W' →
      (W'.cell? ⟨w5.heap.size, 0, none⟩ = some (.string s') ∧ W'.cell? ⟨w5.heap.size, 1, none⟩ = some (.int .i64 f') ∧ W'.cell? ⟨w5.heap.size, 2, none⟩ = some (.int .u32 a') ∧ W'.cell? ⟨w5.heap.size, 3, none⟩ = some (.int .u32 b') ∧ W'.cell? ⟨w5.heap.size, 4, none⟩ = some (.int .u32 c')) ∧
      (W'.cell? ⟨w6.heap.size, 0, none⟩ = some (.string s') ∧ W'.cell? ⟨w6.heap.size, 1, none⟩ = some (.int .i64 f') ∧ W'.cell? ⟨w6.heap.size, 2, none⟩ = some (.int .u32 a') ∧ W'.cell? ⟨w6.heap.size, 3, none⟩ = some (.int .u32 b') ∧ W'.cell? ⟨w6.heap.size, 4, none⟩ = some (.int .u32 c')) ∧
      (convert 22 9 v).run Try.prog W' = .ok (.string ⟨(Nm.outB s.data.toList fl a b c).toArray⟩) W' ∧ (convert 22 9 v').run Try.prog W' = .ok (.string ⟨(Nm.outB s.data.toList fl a b c).toArray⟩) W' ∧
      (convert 22 9 v4).run Try.prog W' = .ok (.string ⟨l.toArray⟩) W' ∧ (convert 22 9 (.slice ab l.length cb)).run Try.prog W' = .ok (.string ⟨l.toArray⟩) W' from fun W' hb => by
    have h6 : Below w6.heap.size w6 W' := ((Below.refl w6.heap.size w6).alloc (Nat.le_refl _) _).trans (hb.mono (by omega))
    have h5' : Below (w5.heap.size + 1) (w5.alloc (.cells #[.string s', .int .i64 f', .int .u32 a', .int .u32 b', .int .u32 c'] 41)) W' := hb6.trans (h6.mono z6)
    have h5 : Below w5.heap.size w5 W' := ((Below.refl w5.heap.size w5).alloc (Nat.le_refl _) _).trans (h5'.mono (by omega))
    refine ⟨⟨(h5'.cell (p := ⟨w5.heap.size, 0, none⟩) (by simp)).trans (by go_simp), (h5'.cell (p := ⟨w5.heap.size, 1, none⟩) (by simp)).trans (by go_simp), (h5'.cell (p := ⟨w5.heap.size, 2, none⟩) (by simp)).trans (by go_simp), (h5'.cell (p := ⟨w5.heap.size, 3, none⟩) (by simp)).trans (by go_simp), (h5'.cell (p := ⟨w5.heap.size, 4, none⟩) (by simp)).trans (by go_simp)⟩,
      ⟨(hb.cell (p := ⟨w6.heap.size, 0, none⟩) (by simp)).trans (by go_simp), (hb.cell (p := ⟨w6.heap.size, 1, none⟩) (by simp)).trans (by go_simp), (hb.cell (p := ⟨w6.heap.size, 2, none⟩) (by simp)).trans (by go_simp), (hb.cell (p := ⟨w6.heap.size, 3, none⟩) (by simp)).trans (by go_simp), (hb.cell (p := ⟨w6.heap.size, 4, none⟩) (by simp)).trans (by go_simp)⟩, ?_, ?_, ?_, ?_⟩
    · exact run_string_of bt Try.underlying9 ((HO1.out.below HB5.out).below h5)
    · exact run_string_of bt Try.underlying9 ((HO2.out.below HB5.out).below h5)
    · exact run_string_of bt Try.underlying9 (HO5.out.below h5)
    · exact run_string_of bt Try.underlying9 (HL5.out.below h5))
  have HB6 := Lib.hid (show Below w.heap.size w w6 from (HB0.out.trans (HB3.out.mono (by omega))).trans ((HB5.out.trans (((Below.refl w5.heap.size w5).alloc (Nat.le_refl _) _).trans (hb6.mono (by omega)) |>.mono z5)).mono (by omega)))
  clear hb6
  generalize Nm.errN s.data.toList fl = E1 at *
  generalize Nm.outB s.data.toList fl a b c = L1 at *
  have hq := fun W => head_eql s' f' a' b' c' s' f' a' b' c' W
  have hq2 : Nm.sameHead s' f' a' b' c' s' f' a' b' c' = true := by simp [Nm.sameHead]
  rw [hq2] at hq
  clear hq2
  go_wp2_with fail
  go_region_held3 (fun W' => (W'.cell? ⟨w5.heap.size, 0, none⟩ = some (.string s') ∧ W'.cell? ⟨w5.heap.size, 1, none⟩ = some (.int .i64 f') ∧ W'.cell? ⟨w5.heap.size, 2, none⟩ = some (.int .u32 a') ∧ W'.cell? ⟨w5.heap.size, 3, none⟩ = some (.int .u32 b') ∧ W'.cell? ⟨w5.heap.size, 4, none⟩ = some (.int .u32 c')) ∧
      (W'.cell? ⟨w6.heap.size, 0, none⟩ = some (.string s') ∧ W'.cell? ⟨w6.heap.size, 1, none⟩ = some (.int .i64 f') ∧ W'.cell? ⟨w6.heap.size, 2, none⟩ = some (.int .u32 a') ∧ W'.cell? ⟨w6.heap.size, 3, none⟩ = some (.int .u32 b') ∧ W'.cell? ⟨w6.heap.size, 4, none⟩ = some (.int .u32 c')) ∧
      (convert 22 9 v).run Try.prog W' = .ok (.string ⟨L1.toArray⟩) W' ∧ (convert 22 9 v').run Try.prog W' = .ok (.string ⟨L1.toArray⟩) W' ∧
      (convert 22 9 v4).run Try.prog W' = .ok (.string ⟨l.toArray⟩) W' ∧ (convert 22 9 (.slice ab l.length cb)).run Try.prog W' = .ok (.string ⟨l.toArray⟩) W')
    (first | exact HF6.out _ hb8 | exact HF6.out _ hb7 | exact HF6.out _ (by repeat (first | exact Below.refl _ _ | apply Below.drew)))
    (first
      | (go_at_call 26; refine (num_any _ _).mono ?_; rintro e w' ⟨rfl, rfl⟩)
      | (go_at_call 37; refine (refOf_any s' f' a' b' c' _).mono ?_; rintro e w7 ⟨rfl, hb7'⟩; have hb7 : Below (w6.heap.size + 1) (w6.alloc (.cells #[.string s', .int .i64 f', .int .u32 a', .int .u32 b', .int .u32 c'] 38)) w7 := (Below.refl _ _).drew.trans (hb7'.mono (by simp)))
      | (go_at_call 17; refine (knows_any _).mono ?_; rintro e w8 ⟨rfl, hb8'⟩; have hb8 : Below (w6.heap.size + 1) (w6.alloc (.cells #[.string s', .int .i64 f', .int .u32 a', .int .u32 b', .int .u32 c'] 38)) w8 := hb7.trans (hb8'.mono (by have := hb7.size; simpa using this))))
  go_wp2
  go_ret
  exact ⟨rfl, HB6.out.trans (((Below.refl _ _).alloc (Nat.le_refl _) _).trans (hb8.mono (by omega)) |>.mono (by omega))⟩

end Go.Proofs.Ytfffkfcemajcpaa
