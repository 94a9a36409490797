/-
  A body in a frame, or the error (reeve's layer 4): the program's and the reference's.
-/
import Derived.Test.YtokghlmffkboiaaGreatFrameRef
namespace Go.Proofs.YtokghlmffkboiaaGreat
open Go.RowKit
set_option linter.unusedVariables false
set_option linter.unusedSimpArgs false

/-- A body in a frame, or the error. -/
def sealF (b : ByteArray) : ByteArray × Int := if 200 < b.size then (⟨#[]⟩, 9) else (sealB b, 0)
theorem frame_seal_any (b : ByteArray) (hs : b.size ≤ maxLen) (w : World) : Calls Tryz.prog 36 #[.string b] w fun e w' => e = .returned (.tuple #[.string (sealF b).1, .int .i64 (sealF b).2]) ∧ Below w.heap.size w w' := by
  unfold sealF
  by_cases h : 200 < b.size
  · rw [if_pos h]
    refine (frame_seal_many b h hs w).mono ?_
    rintro e w' ⟨rfl, rfl⟩
    exact ⟨rfl, Below.refl _ _⟩
  · rw [if_neg h]
    exact frame_seal b (by omega) w
theorem ref04_seal_any (b : ByteArray) (hs : b.size ≤ maxLen) (w : World) : Calls Tryz.prog 39 #[.string b] w fun e w' => e = .returned (.tuple #[.string (sealF b).1, .int .i64 (sealF b).2]) ∧ Below w.heap.size w w' := by
  unfold sealF
  by_cases h : 200 < b.size
  · rw [if_pos h]
    refine (ref04_seal_many b h hs w).mono ?_
    rintro e w' ⟨rfl, rfl⟩
    exact ⟨rfl, Below.refl _ _⟩
  · rw [if_neg h]
    exact ref04_seal b (by omega) w
end Go.Proofs.YtokghlmffkboiaaGreat
