/-
  Messages as texts (reeve's layer 36): the reference's words, names, Word; the program's Word.
-/
import Derived.Test.YtanihdpgblkeaaaGreatDoorLetterMath
import Derived.Test.YtanihdpgblkeaaaGreatDoorRowAll
import Derived.Test.YtanihdpgblkeaaaGreatDoorMsgRefCheck
import Derived.Test.YtanihdpgblkeaaaGreatDoorMsgCheck
namespace Go.Proofs.YtanihdpgblkeaaaGreatDoor
open Go.RowKit
set_option linter.unusedVariables false
set_option linter.unusedSimpArgs false

/-- What is asked of the world's variables. -/
structure LaidL (w : World) : Prop where
  m : LaidM w
  kinds : ∀ k : Nat, k < 8 → w.cell? ⟨0, k, none⟩ = some (.string (strL (kindWM (k + 1 : Nat))))
theorem LaidL.laid {w : World} (h : LaidL w) : Laid w := h.m.laid
theorem LaidL.lt {w : World} (h : LaidL w) : 0 < w.heap.size := World.block_lt_of_cell? w _ (h.kinds 0 (by decide))
theorem LaidL.below {w w' : World} (h : LaidL w) (hb : Below w.heap.size w w') : LaidL w' :=
  ⟨h.m.below hb, fun k hk => keepB hb (h.kinds k hk) h.lt⟩
theorem kind_eightI {k : Int} (h : 1 ≤ k ∧ k ≤ 8) : k = 1 ∨ k = 2 ∨ k = 3 ∨ k = 4 ∨ k = 5 ∨ k = 6 ∨ k = 7 ∨ k = 8 := by omega
def wordsKM : List (List UInt8) := [[], kindWM 1, kindWM 2, kindWM 3, kindWM 4, kindWM 5, kindWM 6, kindWM 7, kindWM 8]
theorem wordsKM_at (k : Nat) (h : 1 ≤ k ∧ k ≤ 8) : wordsKM[k]? = some (kindWM k) := by
  rcases kind_eight h with rfl | rfl | rfl | rfl | rfl | rfl | rfl | rfl <;> rfl
theorem ref36_words (w : World) : Calls Tryz.prog 37 #[] w fun e w' => ∃ v, e = .returned v ∧ RowS w' v (wordsKM.map strL) ∧ Below w.heap.size w w' := by
  go_enter Tryz.func37, Tryz.ntmps37
  go_wp2_with fail
  go_ret
  exact ⟨_, rfl, RowS.new w (wordsKM.map strL) 9 (Nat.le_refl _) (by simp [wordsKM]), (Below.refl _ _).alloc (Nat.le_refl _) _⟩
theorem ref36_names (k : Int) (hk : 1 ≤ k ∧ k ≤ 8) (w : World) : Calls Tryz.prog 39 #[.int .i64 k] w fun e w' => ∃ v, e = .returned v ∧ RowS w' v ((namesWM k).map strL) ∧ Below w.heap.size w w' := by
  rcases kind_eightI hk with rfl | rfl | rfl | rfl | rfl | rfl | rfl | rfl
  · go_enter Tryz.func39, Tryz.ntmps39
    go_wp2_with fail
    go_ret
    exact ⟨_, rfl, RowS.new w ((namesWM 1).map strL) 5 (Nat.le_refl _) (by decide), (Below.refl _ _).alloc (Nat.le_refl _) _⟩
  · go_enter Tryz.func39, Tryz.ntmps39
    go_wp2_with fail
    go_ret
    exact ⟨_, rfl, RowS.new w ((namesWM 2).map strL) 3 (Nat.le_refl _) (by decide), (Below.refl _ _).alloc (Nat.le_refl _) _⟩
  · go_enter Tryz.func39, Tryz.ntmps39
    go_wp2_with fail
    go_ret
    exact ⟨_, rfl, RowS.new w ((namesWM 3).map strL) 3 (Nat.le_refl _) (by decide), (Below.refl _ _).alloc (Nat.le_refl _) _⟩
  · go_enter Tryz.func39, Tryz.ntmps39
    go_wp2_with fail
    go_ret
    exact ⟨_, rfl, RowS.new w ((namesWM 4).map strL) 3 (Nat.le_refl _) (by decide), (Below.refl _ _).alloc (Nat.le_refl _) _⟩
  · go_enter Tryz.func39, Tryz.ntmps39
    go_wp2_with fail
    go_ret
    exact ⟨_, rfl, RowS.new w ((namesWM 5).map strL) 2 (Nat.le_refl _) (by decide), (Below.refl _ _).alloc (Nat.le_refl _) _⟩
  · go_enter Tryz.func39, Tryz.ntmps39
    go_wp2_with fail
    go_ret
    exact ⟨_, rfl, RowS.new w ((namesWM 6).map strL) 5 (Nat.le_refl _) (by decide), (Below.refl _ _).alloc (Nat.le_refl _) _⟩
  · go_enter Tryz.func39, Tryz.ntmps39
    go_wp2_with fail
    go_ret
    exact ⟨_, rfl, RowS.new w ((namesWM 7).map strL) 1 (Nat.le_refl _) (by decide), (Below.refl _ _).alloc (Nat.le_refl _) _⟩
  · go_enter Tryz.func39, Tryz.ntmps39
    go_wp2_with fail
    go_ret
    exact ⟨_, rfl, RowS.new w ((namesWM 8).map strL) 2 (Nat.le_refl _) (by decide), (Below.refl _ _).alloc (Nat.le_refl _) _⟩
def wordBM (k : Int) : Bool := decide (1 ≤ k) && decide (k ≤ 8)
theorem wordBM_yes {k : Int} (h : 1 ≤ k ∧ k ≤ 8) : wordBM k = true := by unfold wordBM; simp [h.1, h.2]
theorem wordBM_no {k : Int} (h : k < 1 ∨ 8 < k) : wordBM k = false := by
  unfold wordBM; rcases h with h | h
  · rw [decide_eq_false (by omega)]; rfl
  · rw [decide_eq_false (show ¬ k ≤ 8 by omega), Bool.and_false]
theorem kindWM_no {k : Int} (h : k < 1 ∨ 8 < k) : kindWM k = [] := by
  unfold kindWM
  rw [if_neg (by omega), if_neg (by omega), if_neg (by omega), if_neg (by omega), if_neg (by omega), if_neg (by omega), if_neg (by omega), if_neg (by omega)]
theorem letter_word (k : Int) (w : World) (hL : LaidL w) : Calls Tryz.prog 13 #[.int .i64 k] w fun e w' => e = .returned (.tuple #[.string (strL (kindWM k)), .bool (wordBM k)]) ∧ w = w' := by
  by_cases h1 : k < 1
  · rw [wordBM_no (.inl h1), kindWM_no (.inl h1)]
    go_enter Tryz.func13, Tryz.ntmps13
    go_wp2_with fail
    go_ret2
    exact ⟨rfl, rfl⟩
  have h1' : 1 ≤ k := by omega
  by_cases h2 : 8 < k
  · rw [wordBM_no (.inr h2), kindWM_no (.inr h2)]
    clear h1
    go_enter Tryz.func13, Tryz.ntmps13
    go_wp2_with fail
    go_ret2
    exact ⟨rfl, rfl⟩
  have h2' : k ≤ 8 := by omega
  rw [wordBM_yes ⟨h1', h2'⟩]
  obtain ⟨q, hq⟩ : ∃ q : Nat, k = (q : Int) + 1 := ⟨(k - 1).toNat, by omega⟩
  subst hq
  have hc := hL.kinds q (by omega)
  rw [show ((q + 1 : Nat) : Int) = (q : Int) + 1 by push_cast; rfl] at hc
  have q1 : (q : Int) + 1 - 1 = (q : Int) := by omega
  have q2 : IntKind.i64.wrap (q : Int) = (q : Int) := by rw [IntKind.wrap_i64]; omega
  have q3 : (0 : Int) ≤ (q : Int) := by omega
  have q4 : (q : Int) < 8 := by omega
  generalize strL (kindWM ((q : Int) + 1)) = X at *
  clear hL h1 h2
  go_enter Tryz.func13, Tryz.ntmps13
  go_wp2_with fail
  go_ret2
  exact ⟨rfl, rfl⟩
theorem ref36_word (k : Int) (w : World) : Calls Tryz.prog 14 #[.int .i64 k] w fun e w' => e = .returned (.tuple #[.string (strL (kindWM k)), .bool (wordBM k)]) ∧ Below w.heap.size w w' := by
  by_cases h1 : k < 1
  · rw [wordBM_no (.inl h1), kindWM_no (.inl h1)]
    go_enter Tryz.func14, Tryz.ntmps14
    go_wp2_with fail
    go_ret2
    exact ⟨rfl, Below.refl _ _⟩
  have h1' : 1 ≤ k := by omega
  by_cases h2 : 8 < k
  · rw [wordBM_no (.inr h2), kindWM_no (.inr h2)]
    clear h1
    go_enter Tryz.func14, Tryz.ntmps14
    go_wp2_with fail
    go_ret2
    exact ⟨rfl, Below.refl _ _⟩
  have h2' : k ≤ 8 := by omega
  rw [wordBM_yes ⟨h1', h2'⟩]
  obtain ⟨q, hq⟩ : ∃ q : Nat, k = (q : Int) := ⟨k.toNat, by omega⟩
  subst hq
  have WD := Lib.hid (ref36_words w)
  have hat := wordsKM_at q (by omega)
  have q3 : (0 : Int) ≤ (q : Int) := by omega
  have q4 : (q : Int) < 9 := by omega
  have HAT := Lib.hid hat
  obtain ⟨X, hX⟩ : ∃ X, strL (kindWM (q : Int)) = X := ⟨_, rfl⟩
  rw [hX]
  have HX := Lib.hid hX
  clear hat h1 h2 hX
  go_enter Tryz.func14, Tryz.ntmps14
  go_wp2_with fail
  refine WD.out.mono ?_
  rintro e w1 ⟨v, rfl, hr, hb⟩
  have HB := Lib.hid hb
  obtain ⟨b, off, cap, x, rfl, hx, hc⟩ := RowS.at hr (j := q) (by simp [wordsKM]; omega)
  obtain rfl : X = x := by rw [List.getElem?_map, HAT.out] at hx; injection hx with hx; rw [← HX.out]; exact hx
  rw [show (wordsKM.map strL).length = 9 by rfl]
  clear hb hr hx WD HAT
  go_wp2_with fail
  go_ret2
  exact ⟨rfl, HB.out⟩
end Go.Proofs.YtanihdpgblkeaaaGreatDoor
