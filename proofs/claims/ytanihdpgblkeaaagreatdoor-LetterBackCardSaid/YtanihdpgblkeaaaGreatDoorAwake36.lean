/-
  What must come whatever the arguments are (the statements of reeve's layer 36): the walk.
-/
import Derived.Test.YtanihdpgblkeaaaGreatDoorLetterParse
namespace Go.Proofs.YtanihdpgblkeaaaGreatDoor
open Go.RowKit
set_option linter.unusedVariables false
set_option linter.unusedSimpArgs false

theorem itoa_one (n : Nat) (h : n < 10) : Lib.itoa (n : Int) = [UInt8.ofNat (48 + n)] := by
  rw [itoa_pos _ (by omega), show ((n : Int)).toNat = n by omega, dec_small n h]
def line36 : List UInt8 := [100, 111, 32, 114, 49, 32, 119, 48, 32, 101, 112, 111, 99, 104, 61, 51, 32, 105, 110, 99, 61, 49, 32, 106, 111, 98, 61, 55]
theorem aw36_check : checkM [3, 1, 100, 3, 1, 7, 0, 0, 0, 0, 0, 0] = 0 := by decide
theorem aw36_r1 : nameM 1 = [114, 49] := by
  have h1 : placeI 1 = 1 := by decide
  unfold nameM
  rw [h1, if_pos rfl]
  have := itoa_one 1 (by decide)
  rw [show ((1 : Nat) : Int) = 1 from rfl] at this
  rw [this]
  decide
theorem aw36_w0 : nameM 100 = [119, 48] := by
  have h1 : placeI 100 = 2 := by decide
  unfold nameM
  rw [h1, if_neg (by decide), if_pos rfl]
  have := itoa_one 0 (by decide)
  rw [show ((0 : Nat) : Int) = 0 from rfl] at this
  rw [show (100 - 100 : Int) = 0 from rfl, this]
  decide
theorem aw36_line : lineM [3, 1, 100, 3, 1, 7, 0, 0, 0, 0, 0, 0] = (line36, 0) := by
  unfold lineM
  rw [if_pos aw36_check]
  have h1 := itoa_one 3 (by decide)
  have h2 := itoa_one 1 (by decide)
  have h3 := itoa_one 7 (by decide)
  have e : numsM [3, 1, 100, 3, 1, 7, 0, 0, 0, 0, 0, 0] = [((3 : Nat) : Int), ((1 : Nat) : Int), ((7 : Nat) : Int)] := by decide
  have e2 : namesWM (fld [3, 1, 100, 3, 1, 7, 0, 0, 0, 0, 0, 0] 0) = [[101, 112, 111, 99, 104], [105, 110, 99], [106, 111, 98]] := by decide
  have e3 : headM [3, 1, 100, 3, 1, 7, 0, 0, 0, 0, 0, 0] = [100, 111, 32, 114, 49, 32, 119, 48] := by
    unfold headM
    rw [show fld [3, 1, 100, 3, 1, 7, 0, 0, 0, 0, 0, 0] 1 = 1 from rfl, show fld [3, 1, 100, 3, 1, 7, 0, 0, 0, 0, 0, 0] 2 = 100 from rfl, aw36_r1, aw36_w0]
    decide
  rw [e, e2, e3]
  unfold rowL
  simp only [rowP, h1, h2, h3]
  decide
theorem aw36_words : wordsL (32 :: (line36 ++ [32, 35, 32, 120])) = wordsL line36 := by simp [line36, wordsL, refW, isB]
theorem aw36_parse : parseM (wordsL (32 :: (line36 ++ [32, 35, 32, 120]))) = ([3, 1, 100, 3, 1, 7, 0, 0, 0, 0, 0, 0], 0) := by
  have h := parse_lineM [3, 1, 100, 3, 1, 7, 0, 0, 0, 0, 0, 0] (by intro n hn; simp at hn; rcases hn with rfl | rfl | rfl | rfl | rfl | rfl | rfl | rfl | rfl | rfl | rfl | rfl <;> decide) aw36_check
  rw [aw36_line] at h
  rw [aw36_words]
  exact h
theorem aw36_bad : parseM (wordsL [100, 111, 32, 114, 49, 32, 119, 48, 32, 101, 112, 111, 99, 104, 61, 51, 32, 105, 110, 99, 61, 49]) = (bare3 0 0 0, 2) := by
  have hw : wordsL [100, 111, 32, 114, 49, 32, 119, 48, 32, 101, 112, 111, 99, 104, 61, 51, 32, 105, 110, 99, 61, 49] = [[100, 111], [114, 49], [119, 48], [101, 112, 111, 99, 104, 61, 51], [105, 110, 99, 61, 49]] := by simp [wordsL, refW, isB]
  have n1 := parseN_name 1 (by decide)
  have n2 := parseN_name 100 (by decide)
  rw [aw36_r1] at n1
  rw [aw36_w0] at n2
  rw [hw, parseM_three (by rw [n1]) (by rw [n2]), n1, n2]
  rw [parseGM_at (q := 3) (by decide) (by decide)]
  have hn : parseKM ((3 : Nat) : Int) 1 100 [[100, 111], [101, 112, 111, 99, 104, 61, 51], [105, 110, 99, 61, 49]] = none := by
    unfold parseKM
    have hr : rowR [[100, 111], [101, 112, 111, 99, 104, 61, 51], [105, 110, 99, 61, 49]] (kindWM ((3 : Nat) : Int)) (namesWM ((3 : Nat) : Int)) = ([], 2) := by
      unfold rowR
      rw [if_neg (by decide)]
    rw [hr, if_neg (by decide)]
  rw [hn]
theorem aw36_L (w : World) (hl : LaidL w) : Calls Tryz.prog 9 #[.agg #[.int .i64 3, .int .i64 1, .int .i64 100, .int .i64 3, .int .i64 1, .int .i64 7, .int .i64 0, .int .i64 0, .int .i64 0, .int .i64 0, .int .i64 0, .int .i64 0]] w fun e w' => e = .returned (.tuple #[.string (strL line36), .int .i64 0]) ∧ Below w.heap.size w w' := by
  have h := letter_line [3, 1, 100, 3, 1, 7, 0, 0, 0, 0, 0, 0] rfl (by intro n hn; simp at hn; rcases hn with rfl | rfl | rfl | rfl | rfl | rfl | rfl | rfl | rfl | rfl | rfl | rfl <;> decide) w hl
  rw [aw36_line] at h
  exact h
theorem aw36_P (w : World) (hl : LaidL w) : Calls Tryz.prog 11 #[.string ((⟨#[32]⟩ : ByteArray) ++ strL line36 ++ ⟨#[32, 35, 32, 120]⟩)] w fun e w' => e = .returned (.tuple #[.agg #[.int .i64 3, .int .i64 1, .int .i64 100, .int .i64 3, .int .i64 1, .int .i64 7, .int .i64 0, .int .i64 0, .int .i64 0, .int .i64 0, .int .i64 0, .int .i64 0], .int .i64 0]) ∧ Below w.heap.size w w' := by
  have e : (⟨#[32]⟩ : ByteArray) ++ strL line36 ++ ⟨#[32, 35, 32, 120]⟩ = strL (32 :: (line36 ++ [32, 35, 32, 120])) := by decide +kernel
  rw [e]
  have h := letter_parse (strL (32 :: (line36 ++ [32, 35, 32, 120]))) (by rw [strL_size]; decide) w hl
  rw [strL_list, aw36_parse] at h
  exact h
theorem aw36_Q (w : World) (hl : LaidL w) : Calls Tryz.prog 11 #[.string ⟨#[100, 111, 32, 114, 49, 32, 119, 48, 32, 101, 112, 111, 99, 104, 61, 51, 32, 105, 110, 99, 61, 49]⟩] w fun e w' => e = .returned (.tuple #[.agg #[.int .i64 0, .int .i64 0, .int .i64 0, .int .i64 0, .int .i64 0, .int .i64 0, .int .i64 0, .int .i64 0, .int .i64 0, .int .i64 0, .int .i64 0, .int .i64 0], .int .i64 2]) ∧ Below w.heap.size w w' := by
  have h := letter_parse ⟨#[100, 111, 32, 114, 49, 32, 119, 48, 32, 101, 112, 111, 99, 104, 61, 51, 32, 105, 110, 99, 61, 49]⟩ (by decide) w hl
  rw [show (⟨#[100, 111, 32, 114, 49, 32, 119, 48, 32, 101, 112, 111, 99, 104, 61, 51, 32, 105, 110, 99, 61, 49]⟩ : ByteArray).data.toList = [100, 111, 32, 114, 49, 32, 119, 48, 32, 101, 112, 111, 99, 104, 61, 51, 32, 105, 110, 99, 61, 49] from rfl, aw36_bad] at h
  exact h
theorem aw36_W (w : World) (hl : LaidL w) : Calls Tryz.prog 13 #[.int .i64 8] w fun e w' => e = .returned (.tuple #[.string ⟨#[97, 110, 115, 119, 101, 114]⟩, .bool true]) ∧ w = w' := letter_word 8 w hl
set_option maxRecDepth 100000 in
set_option maxHeartbeats 6400000 in
theorem awake36 (w : World) (hl : LaidL w) : Calls Tryz.prog 8 #[] w fun e w' => e = .returned (.bool true) ∧ Below w.heap.size w w' := by
  have L := Lib.hid aw36_L
  have P := Lib.hid aw36_P
  have Q := Lib.hid aw36_Q
  have W := Lib.hid aw36_W
  have L0 := Lib.hid hl
  have hq : (strL line36).toList = (⟨#[100, 111, 32, 114, 49, 32, 119, 48, 32, 101, 112, 111, 99, 104, 61, 51, 32, 105, 110, 99, 61, 49, 32, 106, 111, 98, 61, 55]⟩ : ByteArray).toList := rfl
  have hqe := eql_msg [3, 1, 100, 3, 1, 7, 0, 0, 0, 0, 0, 0] [3, 1, 100, 3, 1, 7, 0, 0, 0, 0, 0, 0] rfl rfl
  have hq2 : ∀ w, (binOp .eql 25 (.agg #[.int .i64 3, .int .i64 1, .int .i64 100, .int .i64 3, .int .i64 1, .int .i64 7, .int .i64 0, .int .i64 0, .int .i64 0, .int .i64 0, .int .i64 0, .int .i64 0]) (.agg #[.int .i64 3, .int .i64 1, .int .i64 100, .int .i64 3, .int .i64 1, .int .i64 7, .int .i64 0, .int .i64 0, .int .i64 0, .int .i64 0, .int .i64 0, .int .i64 0])).run Tryz.prog w = .ok (.bool true) w := hqe
  obtain ⟨LS, hLS⟩ : ∃ S, strL line36 = S := ⟨_, rfl⟩
  have hz : LS.size = 28 := by rw [← hLS]; rfl
  rw [hLS] at L P hq
  have hq3 : (LS.toList == (⟨#[100, 111, 32, 114, 49, 32, 119, 48, 32, 101, 112, 111, 99, 104, 61, 51, 32, 105, 110, 99, 61, 49, 32, 106, 111, 98, 61, 55]⟩ : ByteArray).toList) = true := by rw [hq]; simp
  have hq4 : LS.toList = [100, 111, 32, 114, 49, 32, 119, 48, 32, 101, 112, 111, 99, 104, 61, 51, 32, 105, 110, 99, 61, 49, 32, 106, 111, 98, 61, 55] := by simpa using hq3
  clear hqe hl hLS hq
  go_enter Tryz.func8, Tryz.ntmps8
  go_upto_region 2 with fail
  have hb1 : Below w.heap.size w (w.alloc (.cells #[.int .i64 3, .int .i64 1, .int .i64 100, .int .i64 3, .int .i64 1, .int .i64 7, .int .i64 0, .int .i64 0, .int .i64 0, .int .i64 0, .int .i64 0, .int .i64 0] 25)) := (Below.refl _ _).alloc (Nat.le_refl _) _
  have B1 := Lib.hid hb1
  have L1 := Lib.hid (L0.out.below hb1)
  have V1 := Lib.hid (Blk.new w #[.int .i64 3, .int .i64 1, .int .i64 100, .int .i64 3, .int .i64 1, .int .i64 7, .int .i64 0, .int .i64 0, .int .i64 0, .int .i64 0, .int .i64 0, .int .i64 0] 25)
  obtain ⟨w1, hw1⟩ : ∃ w1, w.alloc (.cells #[.int .i64 3, .int .i64 1, .int .i64 100, .int .i64 3, .int .i64 1, .int .i64 7, .int .i64 0, .int .i64 0, .int .i64 0, .int .i64 0, .int .i64 0, .int .i64 0] 25) = w1 := ⟨_, rfl⟩
  rw [hw1] at B1 L1 V1 ⊢
  obtain ⟨b1, hb⟩ : ∃ b, w.heap.size = b := ⟨_, rfl⟩
  have HB1 := Lib.hid hb
  rw [hb] at V1 ⊢
  clear hw1 hb1 hb L0
  have c0 := V1.out.cell (i := 0) rfl
  have c1 := V1.out.cell (i := 1) rfl
  have c2 := V1.out.cell (i := 2) rfl
  have c3 := V1.out.cell (i := 3) rfl
  have c4 := V1.out.cell (i := 4) rfl
  have c5 := V1.out.cell (i := 5) rfl
  have c6 := V1.out.cell (i := 6) rfl
  have c7 := V1.out.cell (i := 7) rfl
  have c8 := V1.out.cell (i := 8) rfl
  have c9 := V1.out.cell (i := 9) rfl
  have c10 := V1.out.cell (i := 10) rfl
  have c11 := V1.out.cell (i := 11) rfl
  go_wp2_with fail
  refine (L.out _ L1.out).mono ?_
  rintro e w2 ⟨rfl, hb2⟩
  have V2 := Lib.hid (V1.out.below hb2 V1.out.lt)
  have B2 := Lib.hid (B1.out.trans (hb2.mono B1.out.size))
  have L2 := Lib.hid (L1.out.below hb2)
  clear hb2 V1 B1 L1 L c0 c1 c2 c3 c4 c5 c6 c7 c8 c9 c10 c11
  go_wp2_with fail
  refine (P.out _ L2.out).mono ?_
  rintro e w3 ⟨rfl, hb3⟩
  have V3 := Lib.hid ((V2.out.below hb3 V2.out.lt).alloc (.cells #[.int .i64 3, .int .i64 1, .int .i64 100, .int .i64 3, .int .i64 1, .int .i64 7, .int .i64 0, .int .i64 0, .int .i64 0, .int .i64 0, .int .i64 0, .int .i64 0] 25))
  have B3 := Lib.hid ((B2.out.trans (hb3.mono B2.out.size)).alloc (by have := B2.out.size; have := hb3.size; omega) (.cells #[.int .i64 3, .int .i64 1, .int .i64 100, .int .i64 3, .int .i64 1, .int .i64 7, .int .i64 0, .int .i64 0, .int .i64 0, .int .i64 0, .int .i64 0, .int .i64 0] 25))
  have L3 := Lib.hid ((L2.out.below hb3).below ((Below.refl _ _).alloc (Nat.le_refl _) (.cells #[.int .i64 3, .int .i64 1, .int .i64 100, .int .i64 3, .int .i64 1, .int .i64 7, .int .i64 0, .int .i64 0, .int .i64 0, .int .i64 0, .int .i64 0, .int .i64 0] 25)))
  have U3 := Lib.hid (Blk.new w3 #[.int .i64 3, .int .i64 1, .int .i64 100, .int .i64 3, .int .i64 1, .int .i64 7, .int .i64 0, .int .i64 0, .int .i64 0, .int .i64 0, .int .i64 0, .int .i64 0] 25)
  clear hb3 V2 B2 L2 P
  go_upto_region 4 with fail
  obtain ⟨w4, hw4⟩ : ∃ w4, w3.alloc (.cells #[.int .i64 3, .int .i64 1, .int .i64 100, .int .i64 3, .int .i64 1, .int .i64 7, .int .i64 0, .int .i64 0, .int .i64 0, .int .i64 0, .int .i64 0, .int .i64 0] 25) = w4 := ⟨_, rfl⟩
  rw [hw4] at V3 B3 L3 U3 ⊢
  obtain ⟨b4, hb⟩ : ∃ b, w3.heap.size = b := ⟨_, rfl⟩
  rw [hb] at U3 ⊢
  clear hw4 hb
  go_wp2_with fail
  refine (Q.out _ L3.out).mono ?_
  rintro e w5 ⟨rfl, hb5⟩
  have V5 := Lib.hid ((V3.out.below hb5 V3.out.lt).alloc (.cells #[.int .i64 0, .int .i64 0, .int .i64 0, .int .i64 0, .int .i64 0, .int .i64 0, .int .i64 0, .int .i64 0, .int .i64 0, .int .i64 0, .int .i64 0, .int .i64 0] 25))
  have U5 := Lib.hid ((U3.out.below hb5 U3.out.lt).alloc (.cells #[.int .i64 0, .int .i64 0, .int .i64 0, .int .i64 0, .int .i64 0, .int .i64 0, .int .i64 0, .int .i64 0, .int .i64 0, .int .i64 0, .int .i64 0, .int .i64 0] 25))
  have B5 := Lib.hid ((B3.out.trans (hb5.mono B3.out.size)).alloc (by have := B3.out.size; have := hb5.size; omega) (.cells #[.int .i64 0, .int .i64 0, .int .i64 0, .int .i64 0, .int .i64 0, .int .i64 0, .int .i64 0, .int .i64 0, .int .i64 0, .int .i64 0, .int .i64 0, .int .i64 0] 25))
  have L5 := Lib.hid ((L3.out.below hb5).below ((Below.refl _ _).alloc (Nat.le_refl _) (.cells #[.int .i64 0, .int .i64 0, .int .i64 0, .int .i64 0, .int .i64 0, .int .i64 0, .int .i64 0, .int .i64 0, .int .i64 0, .int .i64 0, .int .i64 0, .int .i64 0] 25)))
  clear hb5 V3 U3 B3 L3 Q
  go_upto_region 5 with fail
  obtain ⟨w6, hw6⟩ : ∃ w6, w5.alloc (.cells #[.int .i64 0, .int .i64 0, .int .i64 0, .int .i64 0, .int .i64 0, .int .i64 0, .int .i64 0, .int .i64 0, .int .i64 0, .int .i64 0, .int .i64 0, .int .i64 0] 25) = w6 := ⟨_, rfl⟩
  rw [hw6] at V5 U5 B5 L5 ⊢
  clear hw6
  go_wp2_with fail
  refine (W.out _ L5.out).mono ?_
  rintro e w7 ⟨rfl, rfl⟩
  have c0 := V5.out.cell (i := 0) rfl
  have c1 := V5.out.cell (i := 1) rfl
  have c2 := V5.out.cell (i := 2) rfl
  have c3 := V5.out.cell (i := 3) rfl
  have c4 := V5.out.cell (i := 4) rfl
  have c5 := V5.out.cell (i := 5) rfl
  have c6 := V5.out.cell (i := 6) rfl
  have c7 := V5.out.cell (i := 7) rfl
  have c8 := V5.out.cell (i := 8) rfl
  have c9 := V5.out.cell (i := 9) rfl
  have c10 := V5.out.cell (i := 10) rfl
  have c11 := V5.out.cell (i := 11) rfl
  have d0 := U5.out.cell (i := 0) rfl
  have d1 := U5.out.cell (i := 1) rfl
  have d2 := U5.out.cell (i := 2) rfl
  have d3 := U5.out.cell (i := 3) rfl
  have d4 := U5.out.cell (i := 4) rfl
  have d5 := U5.out.cell (i := 5) rfl
  have d6 := U5.out.cell (i := 6) rfl
  have d7 := U5.out.cell (i := 7) rfl
  have d8 := U5.out.cell (i := 8) rfl
  have d9 := U5.out.cell (i := 9) rfl
  have d10 := U5.out.cell (i := 10) rfl
  have d11 := U5.out.cell (i := 11) rfl
  go_wp2_with fail
  go_ret
  exact ⟨rfl, B5.out⟩
end Go.Proofs.YtanihdpgblkeaaaGreatDoor
