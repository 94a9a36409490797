/-
  What must come whatever the arguments are (the statements of reeve's layer 6): the walk.
-/
import Derived.Test.YtanihdpgblkeaaaDoorWordsRefL
namespace Go.Proofs.YtanihdpgblkeaaaDoor
open Go.RowKit
set_option linter.unusedVariables false
set_option linter.unusedSimpArgs false

theorem aw6_find : findI [strL [97], strL [98]] (strL [98]) = 1 ∧ findB [strL [97], strL [98]] (strL [98]) = true := by decide
theorem aw6_cut : cutR ⟨#[120, 61, 121, 61, 122]⟩ 61 = (⟨#[120]⟩, ⟨#[121, 61, 122]⟩, true) := by kernel_rfl
theorem aw6_words : wordsL [32, 97, 9, 32, 98, 35, 99] = [[97], [98]] := by simp [wordsL, refW, isB]
theorem aw6_lines : linesL [97, 10, 10, 98] = [[97], [], [98]] := by simp [linesL, refL]
theorem rowS_two (w : World) (a b : ByteArray) : RowS (w.alloc (.cells #[.string a, .string b] 9)) (.slice (some ⟨w.heap.size, 0, none⟩) 2 2) [a, b] := RowS.new w [a, b] 2 (Nat.le_refl _) (by simp)
theorem rowS_three (w : World) (a b c : ByteArray) : RowS (w.alloc (.cells #[.string a, .string b, .string c] 9)) (.slice (some ⟨w.heap.size, 0, none⟩) 3 3) [a, b, c] := RowS.new w [a, b, c] 3 (Nat.le_refl _) (by simp)
theorem rowS_one (w : World) (a : ByteArray) : RowS (w.alloc (.cells #[.string a] 9)) (.slice (some ⟨w.heap.size, 0, none⟩) 1 1) [a] := RowS.new w [a] 1 (Nat.le_refl _) (by simp)
theorem aw6_F (w : World) : Calls Tryd.prog 20 #[.string ⟨#[98]⟩, .slice (some ⟨w.heap.size, 0, none⟩) 2 2] (w.alloc (.cells #[.string ⟨#[97]⟩, .string ⟨#[98]⟩] 9)) fun e w' => e = .returned (.tuple #[.int .i64 1, .bool true]) ∧ (w.alloc (.cells #[.string ⟨#[97]⟩, .string ⟨#[98]⟩] 9)) = w' := by
  refine (words_find (strL [98]) _ [strL [97], strL [98]] _ (rowS_two w (strL [97]) (strL [98])) (by simp)).mono ?_
  rintro e w' ⟨rfl, rfl⟩
  rw [aw6_find.1, aw6_find.2]
  exact ⟨rfl, rfl⟩
theorem aw6_W (w : World) : Calls Tryd.prog 37 #[.string ⟨#[32, 97, 9, 32, 98, 35, 99]⟩] w fun e w' => ∃ v, e = .returned v ∧ RowS w' v [⟨#[97]⟩, ⟨#[98]⟩] ∧ Below w.heap.size w w' := by
  refine (words_words ⟨#[32, 97, 9, 32, 98, 35, 99]⟩ (by decide) w).mono ?_
  rintro e w' ⟨v, he, ho, hb⟩
  refine ⟨v, he, ?_, hb⟩
  have := ho.row
  rw [show wordsL (⟨#[32, 97, 9, 32, 98, 35, 99]⟩ : ByteArray).data.toList = [[97], [98]] from aw6_words] at this
  exact this
end Go.Proofs.YtanihdpgblkeaaaDoor
