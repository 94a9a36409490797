/-
  What must come whatever the arguments are (the statements of reeve's layer 6): the walk.
-/
import Derived.Test.YtogjckengmkfiaaDoorWordsRefL
namespace Go.Proofs.YtogjckengmkfiaaDoor
open Go.RowKit
set_option linter.unusedVariables false
set_option linter.unusedSimpArgs false

theorem aw6_find : findI [strL [97], strL [98]] (strL [98]) = 1 ∧ findB [strL [97], strL [98]] (strL [98]) = true := by decide
theorem aw6_cut : cutR ⟨#[120, 61, 121, 61, 122]⟩ 61 = (⟨#[120]⟩, ⟨#[121, 61, 122]⟩, true) := by kernel_rfl
theorem aw6_words : wordsL [32, 97, 9, 32, 98, 35, 99] = [[97], [98]] := by simp [wordsL, refW, isB]
theorem aw6_lines : linesL [97, 10, 10, 98] = [[97], [], [98]] := by simp [linesL, refL]
theorem rowS_two (w : World) (a b : ByteArray) : RowS (w.alloc (.cells #[.string a, .string b] 9)) (.slice (some ⟨w.heap.size, 0, none⟩) 2 2) [a, b] := RowS.new w [a, b] 2 (Nat.le_refl _) (by simp)
theorem rowS_three (w : World) (a b c : ByteArray) : RowS (w.alloc (.cells #[.string a, .string b, .string c] 9)) (.slice (some ⟨w.heap.size, 0, none⟩) 3 3) [a, b, c] := RowS.new w [a, b, c] 3 (Nat.le_refl _) (by simp)
theorem rowS_one (w : World) (a : ByteArray) : RowS (w.alloc (.cells #[.string a] 9)) (.slice (some ⟨w.heap.size, 0, none⟩) 1 1) [a] := RowS.new w [a] 1 (Nat.le_refl _) (by simp)
theorem aw6_F (w : World) : Calls Tryd.prog 23 #[.string ⟨#[98]⟩, .slice (some ⟨w.heap.size, 0, none⟩) 2 2] (w.alloc (.cells #[.string ⟨#[97]⟩, .string ⟨#[98]⟩] 9)) fun e w' => e = .returned (.tuple #[.int .i64 1, .bool true]) ∧ (w.alloc (.cells #[.string ⟨#[97]⟩, .string ⟨#[98]⟩] 9)) = w' := by
  refine (words_find (strL [98]) _ [strL [97], strL [98]] _ (rowS_two w (strL [97]) (strL [98])) (by simp)).mono ?_
  rintro e w' ⟨rfl, rfl⟩
  rw [aw6_find.1, aw6_find.2]
  exact ⟨rfl, rfl⟩
theorem aw6_C (w : World) : Calls Tryd.prog 16 #[.string ⟨#[120, 61, 121, 61, 122]⟩, .int .u8 61] w fun e w' => e = .returned (.tuple #[.string ⟨#[120]⟩, .string ⟨#[121, 61, 122]⟩, .bool true]) ∧ ∃ m, w' = w.drewN m := by
  have h := words_cut ⟨#[120, 61, 121, 61, 122]⟩ 61 (by decide) w
  rw [show (((61 : UInt8).toNat : Nat) : Int) = 61 from rfl] at h
  refine h.mono ?_
  rintro e w' ⟨rfl, hm⟩
  rw [aw6_cut]
  exact ⟨rfl, hm⟩
theorem aw6_W (w : World) : Calls Tryd.prog 21 #[.string ⟨#[32, 97, 9, 32, 98, 35, 99]⟩] w fun e w' => ∃ v, e = .returned v ∧ RowS w' v [⟨#[97]⟩, ⟨#[98]⟩] ∧ Below w.heap.size w w' := by
  refine (words_words ⟨#[32, 97, 9, 32, 98, 35, 99]⟩ (by decide) w).mono ?_
  rintro e w' ⟨v, he, ho, hb⟩
  refine ⟨v, he, ?_, hb⟩
  have := ho.row
  rw [show wordsL (⟨#[32, 97, 9, 32, 98, 35, 99]⟩ : ByteArray).data.toList = [[97], [98]] from aw6_words] at this
  exact this
theorem aw6_L (w : World) : Calls Tryd.prog 19 #[.string ⟨#[97, 10, 10, 98]⟩] w fun e w' => ∃ v, e = .returned v ∧ RowS w' v [⟨#[97]⟩, ⟨#[]⟩, ⟨#[98]⟩] ∧ Below w.heap.size w w' := by
  refine (words_lines ⟨#[97, 10, 10, 98]⟩ (by decide) w).mono ?_
  rintro e w' ⟨v, he, ho, hb⟩
  refine ⟨v, he, ?_, hb⟩
  rw [show linesL (⟨#[97, 10, 10, 98]⟩ : ByteArray).data.toList = [[97], [], [98]] from aw6_lines] at ho
  exact ho
theorem aw6_T (w : World) : Calls Tryd.prog 27 #[.slice (some ⟨w.heap.size, 0, none⟩) 1 1] (w.alloc (.cells #[.string ⟨#[97]⟩] 9)) fun e w' => e = .returned (.string ⟨#[97, 10]⟩) ∧ Below (w.heap.size + 1) (w.alloc (.cells #[.string ⟨#[97]⟩] 9)) w' := by
  have h := words_text _ [[97]] _ (rowS_one w (strL [97])) (by simp) (by simp [textL])
  rw [show (w.alloc (.cells #[.string (strL [97])] 9)).heap.size = w.heap.size + 1 by simp] at h
  refine h.mono ?_
  rintro e w' ⟨rfl, hb⟩
  exact ⟨rfl, hb⟩
set_option maxRecDepth 100000 in
set_option maxHeartbeats 3200000 in
theorem awake06 (w : World) : Calls Tryd.prog 15 #[] w fun e w' => e = .returned (.bool true) ∧ Below w.heap.size w w' := by
  have F := Lib.hid (aw6_F w)
  have C := Lib.hid aw6_C
  have W := Lib.hid aw6_W
  have L := Lib.hid aw6_L
  have T := Lib.hid aw6_T
  go_enter Tryd.func15, Tryd.ntmps15
  go_wp2_with fail
  refine F.out.mono ?_
  rintro e w1 ⟨rfl, hw1⟩
  have B1 : Hid (Below w.heap.size w w1) := Lib.hid (by rw [← hw1]; exact (Below.refl _ _).alloc (Nat.le_refl _) _)
  clear hw1 F
  go_wp2_with fail
  refine (C.out _).mono ?_
  rintro e w2 ⟨rfl, m, hw2⟩
  have B2 : Hid (Below w.heap.size w w2) := Lib.hid (by rw [hw2]; exact ⟨B1.out.os, B1.out.tape, B1.out.output, B1.out.size, B1.out.block⟩)
  clear hw2 B1 C
  go_wp2_with fail
  refine (W.out _).mono ?_
  rintro e w3 ⟨v, rfl, hr3, hb3⟩
  have R3 := Lib.hid hr3
  have B3 := Lib.hid (B2.out.trans (hb3.mono B2.out.size))
  obtain ⟨p3, c3, hv3⟩ : ∃ p c, v = .slice p 2 c := hr3.len
  subst hv3
  clear hr3 hb3 B2 W
  go_wp2_with fail
  refine (ref04_same _ _ [⟨#[97]⟩, ⟨#[98]⟩] (by simp) _ (R3.out.below ((Below.refl w3.heap.size w3).alloc (Nat.le_refl _) _) (Nat.le_refl _)) (rowS_two w3 ⟨#[97]⟩ ⟨#[98]⟩)).mono ?_
  rintro e w4 ⟨rfl, hb4⟩
  have B4 := Lib.hid ((B3.out.alloc B3.out.size (.cells #[.string ⟨#[97]⟩, .string ⟨#[98]⟩] 9)).trans (hb4.mono (by have := B3.out.size; simp; omega)))
  clear hb4 B3 R3
  go_wp2_with fail
  refine (L.out _).mono ?_
  rintro e w5 ⟨v, rfl, hr5, hb5⟩
  have R5 := Lib.hid hr5
  have B5 := Lib.hid (B4.out.trans (hb5.mono B4.out.size))
  obtain ⟨p5, c5, hv5⟩ : ∃ p c, v = .slice p 3 c := hr5.len
  subst hv5
  clear hr5 hb5 B4 L
  go_wp2_with fail
  refine (ref04_same _ _ [⟨#[97]⟩, ⟨#[]⟩, ⟨#[98]⟩] (by simp) _ (R5.out.below ((Below.refl w5.heap.size w5).alloc (Nat.le_refl _) _) (Nat.le_refl _)) (rowS_three w5 ⟨#[97]⟩ ⟨#[]⟩ ⟨#[98]⟩)).mono ?_
  rintro e w6 ⟨rfl, hb6⟩
  have B6 := Lib.hid ((B5.out.alloc B5.out.size (.cells #[.string ⟨#[97]⟩, .string ⟨#[]⟩, .string ⟨#[98]⟩] 9)).trans (hb6.mono (by have := B5.out.size; simp; omega)))
  clear hb6 B5 R5
  go_wp2_with fail
  refine (T.out _).mono ?_
  rintro e w7 ⟨rfl, hb7⟩
  have B7 := Lib.hid ((B6.out.alloc B6.out.size (.cells #[.string ⟨#[97]⟩] 9)).trans (hb7.mono (by have := B6.out.size; omega)))
  clear hb7
  go_wp2_with fail
  go_ret
  exact ⟨rfl, B7.out⟩
end Go.Proofs.YtogjckengmkfiaaDoor
