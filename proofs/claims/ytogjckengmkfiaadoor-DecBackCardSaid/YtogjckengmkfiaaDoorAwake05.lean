/-
  What must come whatever the arguments are (the statements of reeve's layer 5): the walk.
-/
import Derived.Test.YtogjckengmkfiaaDoorDecHex
namespace Go.Proofs.YtogjckengmkfiaaDoor
open Go.RowKit
set_option linter.unusedVariables false
set_option linter.unusedSimpArgs false

/-- The digits again, by so many steps. -/
def decF : Nat → Nat → List UInt8
  | 0, u => [UInt8.ofNat (48 + u)]
  | k + 1, u => if u < 10 then [UInt8.ofNat (48 + u)] else decF k (u / 10) ++ [UInt8.ofNat (48 + u % 10)]
theorem decF_eq (k : Nat) : ∀ u, u < 10 ^ (k + 1) → Lib.decDigits u = decF k u := by
  induction k with
  | zero => intro u h; exact dec_small u (by omega)
  | succ k ih =>
    intro u h
    unfold decF
    by_cases h10 : u < 10
    · rw [if_pos h10, dec_small u h10]
    · rw [if_neg h10, dec_big u (by omega), ih (u / 10) (by rw [Nat.pow_succ] at h; omega)]
theorem aw5_a : Lib.itoa (-12) = [45, 49, 50] := by
  rw [itoa_negI _ (by decide), show ((-12 : Int)).natAbs = 12 from rfl, decF_eq 3 12 (by decide)]; decide
theorem aw5_b : decR [45, 48] = (0, 2) := decR_none (fun n _ e => by
  have h : n = 0 := by rw [← sgnV_itoa n, e]; rfl
  subst h
  rw [itoa_pos _ (by decide), show ((0 : Int)).toNat = 0 from rfl, dec_small 0 (by decide)] at e
  exact absurd e (by decide))
theorem aw5_c : Lib.itoa 1 = [49] := by rw [itoa_pos _ (by decide), show ((1 : Int)).toNat = 1 from rfl, dec_small 1 (by decide)]; decide
theorem aw5_d : Lib.itoa (-2) = [45, 50] := by rw [itoa_negI _ (by decide), show ((-2 : Int)).natAbs = 2 from rfl, dec_small 2 (by decide)]; decide
theorem aw5_e : Lib.itoa (-9223372036854775808) = [45, 57, 50, 50, 51, 51, 55, 50, 48, 51, 54, 56, 53, 52, 55, 55, 53, 56, 48, 56] := by
  rw [itoa_negI _ (by decide), show ((-9223372036854775808 : Int)).natAbs = 9223372036854775808 from rfl, decF_eq 19 9223372036854775808 (by decide)]; decide +kernel
theorem aw5_f : listR [49, 44, 45, 50] 2 = ([1, -2], 0) := by
  have h1 : splitC 44 [49, 44, 45, 50] = [[49], [45, 50]] := by decide
  have d1 : decV [49] = some 1 := by rw [← aw5_c]; exact decV_itoa 1 (by decide)
  have d2 : decV [45, 50] = some (-2) := by rw [← aw5_d]; exact decV_itoa (-2) (by decide)
  unfold listR
  rw [h1, if_neg (by decide)]
  simp [allV, d1, d2]
theorem aw5_g : listR [] 0 = ([], 2) := by decide
theorem aw5_h : hexL [97, 122] = [54, 49, 55, 97] := by decide
theorem rowN_two (w : World) (a b : Int) : RowN (w.alloc (.cells #[.int .i64 a, .int .i64 b] 3)) (.slice (some ⟨w.heap.size, 0, none⟩) 2 2) [a, b] := by
  refine .inr ⟨_, 0, 2, rfl, by simp, fun j x hj => ?_, Nat.le_refl _⟩
  have h := Blk.new w #[.int .i64 a, .int .i64 b] 3
  rw [Nat.zero_add]
  match j, hj with
  | 0, hj => simp at hj; subst hj; exact h.cell rfl
  | 1, hj => simp at hj; subst hj; exact h.cell rfl
theorem aw5_P (w : World) (hl : Laid w) : Calls Tryd.prog 39 #[.string ⟨#[45, 49, 50]⟩] w fun e w' => e = .returned (.tuple #[.int .i64 (-12), .int .i64 0]) ∧ Below w.heap.size w w' := by
  refine (dec_parse ⟨#[45, 49, 50]⟩ (by decide) w hl).mono ?_
  rintro e w' ⟨rfl, hb⟩
  rw [show decR (⟨#[45, 49, 50]⟩ : ByteArray).data.toList = (-12, 0) from decR_text (by decide) aw5_a]
  exact ⟨rfl, hb⟩
theorem aw5_Q (w : World) (hl : Laid w) : Calls Tryd.prog 39 #[.string ⟨#[45, 48]⟩] w fun e w' => e = .returned (.tuple #[.int .i64 0, .int .i64 2]) ∧ Below w.heap.size w w' := by
  refine (dec_parse ⟨#[45, 48]⟩ (by decide) w hl).mono ?_
  rintro e w' ⟨rfl, hb⟩
  rw [show decR (⟨#[45, 48]⟩ : ByteArray).data.toList = (0, 2) from aw5_b]
  exact ⟨rfl, hb⟩
theorem aw5_L (w : World) (hl : Laid w) : Calls Tryd.prog 60 #[.string ⟨#[49, 44, 45, 50]⟩, .int .i64 2] w fun e w' => ∃ v, e = .returned (.tuple #[v, .int .i64 0]) ∧ RowN w' v [1, -2] ∧ Below w.heap.size w w' := by
  refine (dec_parseList ⟨#[49, 44, 45, 50]⟩ 2 (by decide) w hl).mono ?_
  rintro e w' ⟨v, he, hr, hb⟩
  rw [show listR (⟨#[49, 44, 45, 50]⟩ : ByteArray).data.toList 2 = ([1, -2], 0) from aw5_f] at he hr
  exact ⟨v, he, hr, hb⟩
theorem aw5_M (w : World) (hl : Laid w) : Calls Tryd.prog 60 #[.string ⟨#[]⟩, .int .i64 0] w fun e w' => ∃ v, e = .returned (.tuple #[v, .int .i64 2]) ∧ RowN w' v [] ∧ Below w.heap.size w w' := by
  refine (dec_parseList ⟨#[]⟩ 0 (by decide) w hl).mono ?_
  rintro e w' ⟨v, he, hr, hb⟩
  rw [show listR (⟨#[]⟩ : ByteArray).data.toList 0 = ([], 2) from aw5_g] at he hr
  exact ⟨v, he, hr, hb⟩
theorem aw5_T (w : World) (hl : Laid w) : Calls Tryd.prog 41 #[.int .i64 (-9223372036854775808)] w fun e w' => e = .returned (.string ⟨#[45, 57, 50, 50, 51, 51, 55, 50, 48, 51, 54, 56, 53, 52, 55, 55, 53, 56, 48, 56]⟩) ∧ Below w.heap.size w w' := by
  refine (dec_text (-9223372036854775808) (by decide) w hl).mono ?_
  rintro e w' ⟨rfl, hb⟩
  rw [aw5_e]
  exact ⟨rfl, hb⟩
theorem aw5_X (w : World) : Calls Tryd.prog 66 #[.string ⟨#[97, 122]⟩] w fun e w' => e = .returned (.string ⟨#[54, 49, 55, 97]⟩) ∧ Below w.heap.size w w' := by
  refine (dec_hex ⟨#[97, 122]⟩ (by decide) w).mono ?_
  rintro e w' ⟨rfl, hb⟩
  rw [show hexL (⟨#[97, 122]⟩ : ByteArray).data.toList = [54, 49, 55, 97] from aw5_h]
  exact ⟨rfl, hb⟩
set_option maxRecDepth 100000 in
set_option maxHeartbeats 3200000 in
theorem awake05 (w : World) (hl : Laid w) : Calls Tryd.prog 38 #[] w fun e w' => e = .returned (.bool true) ∧ Below w.heap.size w w' := by
  have P := Lib.hid aw5_P
  have Q := Lib.hid aw5_Q
  have L := Lib.hid aw5_L
  have M := Lib.hid aw5_M
  have T := Lib.hid aw5_T
  have X := Lib.hid aw5_X
  have L0 := Lib.hid hl
  clear hl
  go_enter Tryd.func38, Tryd.ntmps38
  go_wp2_with fail
  refine (P.out _ L0.out).mono ?_
  rintro e w1 ⟨rfl, hb1⟩
  have L1 := Lib.hid (L0.out.below hb1)
  have B1 := Lib.hid hb1
  clear hb1 P
  go_wp2_with fail
  refine (Q.out _ L1.out).mono ?_
  rintro e w2 ⟨rfl, hb2⟩
  have L2 := Lib.hid (L1.out.below hb2)
  have B2 := Lib.hid (B1.out.trans (hb2.mono B1.out.size))
  clear hb2 Q B1 L1
  go_wp2_with fail
  refine (L.out _ L2.out).mono ?_
  rintro e w3 ⟨v3, rfl, hr3, hb3⟩
  have R3 := Lib.hid hr3
  have L3 := Lib.hid (L2.out.below hb3)
  have B3 := Lib.hid (B2.out.trans (hb3.mono B2.out.size))
  obtain ⟨p3, c3, hv3⟩ : ∃ p c, v3 = .slice p 2 c := hr3.len
  subst hv3
  clear hb3 hr3 L B2 L2
  go_wp2_with fail
  refine (M.out _ L3.out).mono ?_
  rintro e w4 ⟨v4, rfl, hr4, hb4⟩
  have R4 := Lib.hid (R3.out.below hb4 (Nat.le_refl _))
  have L4 := Lib.hid (L3.out.below hb4)
  have B4 := Lib.hid (B3.out.trans (hb4.mono B3.out.size))
  obtain ⟨p4, c4, hv4⟩ : ∃ p c, v4 = .slice p 0 c := hr4.len
  subst hv4
  clear hb4 hr4 M B3 L3 R3
  go_wp2_with fail
  refine (ref01_same _ _ [1, -2] (by simp) _ (R4.out.below ((Below.refl w4.heap.size w4).alloc (Nat.le_refl _) _) (Nat.le_refl _)) (rowN_two w4 1 (-2))).mono ?_
  rintro e w5 ⟨rfl, hb5⟩
  have hb5' : Below w4.heap.size w4 w5 := ((Below.refl w4.heap.size w4).alloc (Nat.le_refl _) (.cells #[.int .i64 1, .int .i64 (-2)] 3)).trans (hb5.mono (by simp))
  have L5 := Lib.hid (L4.out.below hb5')
  have B5 := Lib.hid (B4.out.trans (hb5'.mono B4.out.size))
  clear hb5 hb5' B4 L4 R4
  go_wp2_with fail
  refine (T.out _ L5.out).mono ?_
  rintro e w6 ⟨rfl, hb6⟩
  have B6 := Lib.hid (B5.out.trans (hb6.mono B5.out.size))
  clear hb6 B5 L5
  go_wp2_with fail
  refine (X.out _).mono ?_
  rintro e w7 ⟨rfl, hb7⟩
  have B7 := Lib.hid (B6.out.trans (hb7.mono B6.out.size))
  clear hb7
  go_wp2_with fail
  go_ret
  exact ⟨rfl, B7.out⟩
end Go.Proofs.YtogjckengmkfiaaDoor
