/-
  What must come whatever the arguments are (the statements of reeve's layer 19): the walk.
-/
import Derived.Test.YtanihdpgblkeaaaGreatDoorPhraseParse
namespace Go.Proofs.YtanihdpgblkeaaaGreatDoor
open Go.RowKit
set_option linter.unusedVariables false
set_option linter.unusedSimpArgs false

theorem itoa_one (n : Nat) (h : n < 10) : Lib.itoa (n : Int) = [UInt8.ofNat (48 + n)] := by
  rw [itoa_pos _ (by omega), show ((n : Int)).toNat = n by omega, dec_small n h]
def line19 : List UInt8 := [115, 117, 98, 109, 105, 116, 32, 106, 111, 98, 61, 55, 32, 112, 114, 105, 111, 61, 51, 32, 99, 111, 114, 101, 115, 61, 49, 32, 109, 101, 109, 111, 114, 121, 61, 50, 32, 100, 105, 115, 107, 61, 48]
theorem aw19_check : checkL [4, 0, 7, 0, 3, 1, 2, 0] = 0 := by decide
theorem aw19_line : lineR [4, 0, 7, 0, 3, 1, 2, 0] = (line19, 0) := by
  unfold lineR
  rw [if_pos aw19_check]
  have h1 := itoa_one 7 (by decide)
  have h2 := itoa_one 3 (by decide)
  have h3 := itoa_one 1 (by decide)
  have h4 := itoa_one 2 (by decide)
  have h5 := itoa_one 0 (by decide)
  have e : numsL [4, 0, 7, 0, 3, 1, 2, 0] = [((7 : Nat) : Int), ((3 : Nat) : Int), ((1 : Nat) : Int), ((2 : Nat) : Int), ((0 : Nat) : Int)] := by decide
  have e2 : namesW (fld [4, 0, 7, 0, 3, 1, 2, 0] 0) = [[106, 111, 98], [112, 114, 105, 111], [99, 111, 114, 101, 115], [109, 101, 109, 111, 114, 121], [100, 105, 115, 107]] := by decide
  have e3 : kindW (fld [4, 0, 7, 0, 3, 1, 2, 0] 0) = [115, 117, 98, 109, 105, 116] := by decide
  rw [e, e2, e3]
  unfold rowL
  simp only [rowP, h1, h2, h3, h4, h5]
  decide
theorem aw19_words : wordsL (32 :: (line19 ++ [32, 35, 32, 120])) = wordsL line19 := by simp [line19, wordsL, refW, isB]
theorem aw19_parse : parseR (wordsL (32 :: (line19 ++ [32, 35, 32, 120]))) = ([4, 0, 7, 0, 3, 1, 2, 0], 0) := by
  have h := parse_line [4, 0, 7, 0, 3, 1, 2, 0] (by intro n hn; simp at hn; rcases hn with rfl | rfl | rfl | rfl | rfl | rfl | rfl | rfl <;> decide) aw19_check
  rw [aw19_line] at h
  rw [aw19_words]
  exact h
theorem aw19_bad : parseR (wordsL [99, 97, 110, 99, 101, 108, 32, 106, 111, 98, 61, 48]) = (bare 0, 2) := by
  have hw : wordsL [99, 97, 110, 99, 101, 108, 32, 106, 111, 98, 61, 48] = [[99, 97, 110, 99, 101, 108], [106, 111, 98, 61, 48]] := by simp [wordsL, refW, isB]
  have h5 := itoa_one 0 (by decide)
  have hr := row_back (kindW 5) (namesW 5) [((0 : Nat) : Int)] (by decide) (by decide)
  have e2 : namesW 5 = [[106, 111, 98]] := by decide
  have e3 : kindW 5 = [99, 97, 110, 99, 101, 108] := by decide
  rw [e2] at hr
  simp only [rowP, h5] at hr
  rw [hw, parseR_at (q := 5) (by decide) (by rw [show ((5 : Nat) : Int) = 5 from rfl, e3]; rfl)]
  have hn : parseK ((5 : Nat) : Int) [[99, 97, 110, 99, 101, 108], [106, 111, 98, 61, 48]] = none := by
    unfold parseK
    rw [show ((5 : Nat) : Int) = 5 from rfl, e2]
    rw [e3] at hr ⊢
    have hr2 : rowR [[99, 97, 110, 99, 101, 108], [106, 111, 98, 61, 48]] [99, 97, 110, 99, 101, 108] [[106, 111, 98]] = ([0], 0) := hr
    rw [hr2, if_pos rfl, if_neg (by decide)]
  rw [hn]
theorem aw19_L (w : World) (hl : LaidP w) : Calls Tryz.prog 50 #[.agg #[.int .i64 4, .int .i64 0, .int .i64 7, .int .i64 0, .int .i64 3, .int .i64 1, .int .i64 2, .int .i64 0]] w fun e w' => e = .returned (.tuple #[.string (strL line19), .int .i64 0]) ∧ Below w.heap.size w w' := by
  have h := phrase_line [4, 0, 7, 0, 3, 1, 2, 0] rfl (by intro n hn; simp at hn; rcases hn with rfl | rfl | rfl | rfl | rfl | rfl | rfl | rfl <;> decide) w hl
  rw [aw19_line] at h
  exact h
theorem aw19_P (w : World) (hl : LaidP w) : Calls Tryz.prog 51 #[.string ((⟨#[32]⟩ : ByteArray) ++ strL line19 ++ ⟨#[32, 35, 32, 120]⟩)] w fun e w' => e = .returned (.tuple #[.agg #[.int .i64 4, .int .i64 0, .int .i64 7, .int .i64 0, .int .i64 3, .int .i64 1, .int .i64 2, .int .i64 0], .int .i64 0]) ∧ Below w.heap.size w w' := by
  have e : (⟨#[32]⟩ : ByteArray) ++ strL line19 ++ ⟨#[32, 35, 32, 120]⟩ = strL (32 :: (line19 ++ [32, 35, 32, 120])) := by decide +kernel
  rw [e]
  have h := phrase_parse (strL (32 :: (line19 ++ [32, 35, 32, 120]))) (by rw [strL_size]; decide) w hl
  rw [strL_list, aw19_parse] at h
  exact h
theorem aw19_Q (w : World) (hl : LaidP w) : Calls Tryz.prog 51 #[.string ⟨#[99, 97, 110, 99, 101, 108, 32, 106, 111, 98, 61, 48]⟩] w fun e w' => e = .returned (.tuple #[.agg #[.int .i64 0, .int .i64 0, .int .i64 0, .int .i64 0, .int .i64 0, .int .i64 0, .int .i64 0, .int .i64 0], .int .i64 2]) ∧ Below w.heap.size w w' := by
  have h := phrase_parse ⟨#[99, 97, 110, 99, 101, 108, 32, 106, 111, 98, 61, 48]⟩ (by decide) w hl
  rw [show (⟨#[99, 97, 110, 99, 101, 108, 32, 106, 111, 98, 61, 48]⟩ : ByteArray).data.toList = [99, 97, 110, 99, 101, 108, 32, 106, 111, 98, 61, 48] from rfl, aw19_bad] at h
  exact h
theorem aw19_W (w : World) (hl : LaidP w) : Calls Tryz.prog 52 #[.int .i64 7] w fun e w' => e = .returned (.tuple #[.string ⟨#[100, 111, 110, 101]⟩, .bool true]) ∧ w = w' := phrase_word 7 w hl
set_option maxRecDepth 100000 in
set_option maxHeartbeats 6400000 in
theorem awake19 (w : World) (hl : LaidP w) : Calls Tryz.prog 15 #[] w fun e w' => e = .returned (.bool true) ∧ Below w.heap.size w w' := by
  have L := Lib.hid aw19_L
  have P := Lib.hid aw19_P
  have Q := Lib.hid aw19_Q
  have W := Lib.hid aw19_W
  have L0 := Lib.hid hl
  have hq : (strL line19).toList = (⟨#[115, 117, 98, 109, 105, 116, 32, 106, 111, 98, 61, 55, 32, 112, 114, 105, 111, 61, 51, 32, 99, 111, 114, 101, 115, 61, 49, 32, 109, 101, 109, 111, 114, 121, 61, 50, 32, 100, 105, 115, 107, 61, 48]⟩ : ByteArray).toList := rfl
  have hqe := eql_event [4, 0, 7, 0, 3, 1, 2, 0] [4, 0, 7, 0, 3, 1, 2, 0] rfl rfl
  have hq2 : ∀ w, (binOp .eql 43 (.agg #[.int .i64 4, .int .i64 0, .int .i64 7, .int .i64 0, .int .i64 3, .int .i64 1, .int .i64 2, .int .i64 0]) (.agg #[.int .i64 4, .int .i64 0, .int .i64 7, .int .i64 0, .int .i64 3, .int .i64 1, .int .i64 2, .int .i64 0])).run Tryz.prog w = .ok (.bool true) w := hqe
  obtain ⟨LS, hLS⟩ : ∃ S, strL line19 = S := ⟨_, rfl⟩
  have hz : LS.size = 43 := by rw [← hLS]; rfl
  rw [hLS] at L P hq
  have hq3 : (LS.toList == (⟨#[115, 117, 98, 109, 105, 116, 32, 106, 111, 98, 61, 55, 32, 112, 114, 105, 111, 61, 51, 32, 99, 111, 114, 101, 115, 61, 49, 32, 109, 101, 109, 111, 114, 121, 61, 50, 32, 100, 105, 115, 107, 61, 48]⟩ : ByteArray).toList) = true := by rw [hq]; simp
  have hq4 : LS.toList = [115, 117, 98, 109, 105, 116, 32, 106, 111, 98, 61, 55, 32, 112, 114, 105, 111, 61, 51, 32, 99, 111, 114, 101, 115, 61, 49, 32, 109, 101, 109, 111, 114, 121, 61, 50, 32, 100, 105, 115, 107, 61, 48] := by simpa using hq3
  clear hqe hl hLS hq
  go_enter Tryz.func15, Tryz.ntmps15
  go_upto_region 2 with fail
  have hb1 : Below w.heap.size w (w.alloc (.cells #[.int .i64 4, .int .i64 0, .int .i64 7, .int .i64 0, .int .i64 3, .int .i64 1, .int .i64 2, .int .i64 0] 43)) := (Below.refl _ _).alloc (Nat.le_refl _) _
  have B1 := Lib.hid hb1
  have L1 := Lib.hid (L0.out.below hb1)
  have V1 := Lib.hid (Blk.new w #[.int .i64 4, .int .i64 0, .int .i64 7, .int .i64 0, .int .i64 3, .int .i64 1, .int .i64 2, .int .i64 0] 43)
  obtain ⟨w1, hw1⟩ : ∃ w1, w.alloc (.cells #[.int .i64 4, .int .i64 0, .int .i64 7, .int .i64 0, .int .i64 3, .int .i64 1, .int .i64 2, .int .i64 0] 43) = w1 := ⟨_, rfl⟩
  rw [hw1] at B1 L1 V1 ⊢
  obtain ⟨b1, hb⟩ : ∃ b, w.heap.size = b := ⟨_, rfl⟩
  have HB1 := Lib.hid hb
  rw [hb] at V1 ⊢
  clear hw1 hb1 hb L0
  have c0 := V1.out.cell (i := 0) rfl
  have c1 := V1.out.cell (i := 1) rfl
  have c2 := V1.out.cell (i := 2) rfl
  have c3 := V1.out.cell (i := 3) rfl
  have c4 := V1.out.cell (i := 4) rfl
  have c5 := V1.out.cell (i := 5) rfl
  have c6 := V1.out.cell (i := 6) rfl
  have c7 := V1.out.cell (i := 7) rfl
  go_wp2_with fail
  refine (L.out _ L1.out).mono ?_
  rintro e w2 ⟨rfl, hb2⟩
  have V2 := Lib.hid (V1.out.below hb2 V1.out.lt)
  have B2 := Lib.hid (B1.out.trans (hb2.mono B1.out.size))
  have L2 := Lib.hid (L1.out.below hb2)
  clear hb2 V1 B1 L1 L c0 c1 c2 c3 c4 c5 c6 c7
  go_wp2_with fail
  refine (P.out _ L2.out).mono ?_
  rintro e w3 ⟨rfl, hb3⟩
  have V3 := Lib.hid ((V2.out.below hb3 V2.out.lt).alloc (.cells #[.int .i64 4, .int .i64 0, .int .i64 7, .int .i64 0, .int .i64 3, .int .i64 1, .int .i64 2, .int .i64 0] 43))
  have B3 := Lib.hid ((B2.out.trans (hb3.mono B2.out.size)).alloc (by have := B2.out.size; have := hb3.size; omega) (.cells #[.int .i64 4, .int .i64 0, .int .i64 7, .int .i64 0, .int .i64 3, .int .i64 1, .int .i64 2, .int .i64 0] 43))
  have L3 := Lib.hid ((L2.out.below hb3).below ((Below.refl _ _).alloc (Nat.le_refl _) (.cells #[.int .i64 4, .int .i64 0, .int .i64 7, .int .i64 0, .int .i64 3, .int .i64 1, .int .i64 2, .int .i64 0] 43)))
  have U3 := Lib.hid (Blk.new w3 #[.int .i64 4, .int .i64 0, .int .i64 7, .int .i64 0, .int .i64 3, .int .i64 1, .int .i64 2, .int .i64 0] 43)
  clear hb3 V2 B2 L2 P
  go_upto_region 4 with fail
  obtain ⟨w4, hw4⟩ : ∃ w4, w3.alloc (.cells #[.int .i64 4, .int .i64 0, .int .i64 7, .int .i64 0, .int .i64 3, .int .i64 1, .int .i64 2, .int .i64 0] 43) = w4 := ⟨_, rfl⟩
  rw [hw4] at V3 B3 L3 U3 ⊢
  obtain ⟨b4, hb⟩ : ∃ b, w3.heap.size = b := ⟨_, rfl⟩
  rw [hb] at U3 ⊢
  clear hw4 hb
  go_wp2_with fail
  refine (Q.out _ L3.out).mono ?_
  rintro e w5 ⟨rfl, hb5⟩
  have V5 := Lib.hid ((V3.out.below hb5 V3.out.lt).alloc (.cells #[.int .i64 0, .int .i64 0, .int .i64 0, .int .i64 0, .int .i64 0, .int .i64 0, .int .i64 0, .int .i64 0] 43))
  have U5 := Lib.hid ((U3.out.below hb5 U3.out.lt).alloc (.cells #[.int .i64 0, .int .i64 0, .int .i64 0, .int .i64 0, .int .i64 0, .int .i64 0, .int .i64 0, .int .i64 0] 43))
  have B5 := Lib.hid ((B3.out.trans (hb5.mono B3.out.size)).alloc (by have := B3.out.size; have := hb5.size; omega) (.cells #[.int .i64 0, .int .i64 0, .int .i64 0, .int .i64 0, .int .i64 0, .int .i64 0, .int .i64 0, .int .i64 0] 43))
  have L5 := Lib.hid ((L3.out.below hb5).below ((Below.refl _ _).alloc (Nat.le_refl _) (.cells #[.int .i64 0, .int .i64 0, .int .i64 0, .int .i64 0, .int .i64 0, .int .i64 0, .int .i64 0, .int .i64 0] 43)))
  clear hb5 V3 U3 B3 L3 Q
  go_upto_region 5 with fail
  obtain ⟨w6, hw6⟩ : ∃ w6, w5.alloc (.cells #[.int .i64 0, .int .i64 0, .int .i64 0, .int .i64 0, .int .i64 0, .int .i64 0, .int .i64 0, .int .i64 0] 43) = w6 := ⟨_, rfl⟩
  rw [hw6] at V5 U5 B5 L5 ⊢
  clear hw6
  go_wp2_with fail
  refine (W.out _ L5.out).mono ?_
  rintro e w7 ⟨rfl, rfl⟩
  have c0 := V5.out.cell (i := 0) rfl
  have c1 := V5.out.cell (i := 1) rfl
  have c2 := V5.out.cell (i := 2) rfl
  have c3 := V5.out.cell (i := 3) rfl
  have c4 := V5.out.cell (i := 4) rfl
  have c5 := V5.out.cell (i := 5) rfl
  have c6 := V5.out.cell (i := 6) rfl
  have c7 := V5.out.cell (i := 7) rfl
  have d0 := U5.out.cell (i := 0) rfl
  have d1 := U5.out.cell (i := 1) rfl
  have d2 := U5.out.cell (i := 2) rfl
  have d3 := U5.out.cell (i := 3) rfl
  have d4 := U5.out.cell (i := 4) rfl
  have d5 := U5.out.cell (i := 5) rfl
  have d6 := U5.out.cell (i := 6) rfl
  have d7 := U5.out.cell (i := 7) rfl
  go_wp2_with fail
  go_ret
  exact ⟨rfl, B5.out⟩
end Go.Proofs.YtanihdpgblkeaaaGreatDoor
