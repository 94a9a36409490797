/-
  The numbers of a text (reeve's layer 5): the reference's ParseList.
-/
import Derived.Test.YtanihdpgblkeaaaDoorDecJoin
import Derived.Test.YtanihdpgblkeaaaDoorWordsRef
namespace Go.Proofs.YtanihdpgblkeaaaDoor
open Go.RowKit
set_option linter.unusedVariables false
set_option linter.unusedSimpArgs false

/-- The pieces of a text, with what has been read of the first. -/
def refP (line : List UInt8) : List UInt8 → List (List UInt8)
  | [] => [line]
  | x :: r => if x = 44 then line :: refP [] r else refP (line ++ [x]) r
theorem refP_split (l : List UInt8) : ∀ line, refP line l = (line ++ (splitC 44 l).headD []) :: (splitC 44 l).tail := by
  induction l with
  | nil => intro line; simp [refP, splitC]
  | cons x r ih =>
    intro line
    unfold refP
    by_cases h : x = 44
    · rw [if_pos h, ih []]
      rw [show splitC 44 (x :: r) = [] :: splitC 44 r by rw [splitC, if_pos h]]
      have hne := splitC_ne 44 r
      cases hs : splitC 44 r with
      | nil => exact absurd hs hne
      | cons a b => simp
    · rw [if_neg h, ih]
      rw [show splitC 44 (x :: r) = (x :: (splitC 44 r).headD []) :: (splitC 44 r).tail by rw [splitC, if_neg h]]
      simp
theorem refP_zero (l : List UInt8) : refP [] l = splitC 44 l := by
  rw [refP_split]
  have hne := splitC_ne 44 l
  cases hs : splitC 44 l with
  | nil => exact absurd hs hne
  | cons a b => simp
def lineAt (L : List UInt8) (fr k : Nat) : List UInt8 := (L.drop fr).take (k - fr)
theorem line_ext (s : ByteArray) (fr k : Nat) : s.extract fr k = strL (lineAt s.data.toList fr k) := by
  apply ByteArray.ext
  unfold strL lineAt
  rw [ByteArray.data_extract]
  apply Array.ext'
  simp
theorem line_snoc (L : List UInt8) (fr k : Nat) (c : UInt8) (h : L[k]? = some c) (hf : fr ≤ k) : lineAt L fr (k + 1) = lineAt L fr k ++ [c] := by
  unfold lineAt
  rw [show k + 1 - fr = (k - fr) + 1 by omega]
  refine take_at ?_
  rw [List.getElem?_drop, show fr + (k - fr) = k by omega]
  exact h
theorem line_self (L : List UInt8) (k : Nat) : lineAt L k k = [] := by unfold lineAt; rw [Nat.sub_self, List.take_zero]
theorem line_le (L : List UInt8) (fr k : Nat) : (lineAt L fr k).length ≤ L.length := by
  unfold lineAt; rw [List.length_take, List.length_drop]; omega
end Go.Proofs.YtanihdpgblkeaaaDoor
