/-
  The reference's events (reeve's layer 18): names, vectors that may be, numbers.
-/
import Derived.Test.YtanihdpgblkeaaaDoorOwnI
import Derived.Test.YtanihdpgblkeaaaDoorEventCheck
import Derived.Test.YtanihdpgblkeaaaDoorOctet
import Derived.Test.YtanihdpgblkeaaaDoorBuilder
namespace Go.Proofs.YtanihdpgblkeaaaDoor
open Go.RowKit
set_option linter.unusedVariables false
set_option linter.unusedSimpArgs false

/-- The letters of what a kind names. -/
def nm (k : Int) : List UInt8 :=
  if k = 1 ∨ k = 2 then [78, 73, 82] else if k = 3 then [78, 73] else if k = 4 then [74, 80, 82] else if k = 5 then [74] else if k = 6 ∨ k = 7 then [74, 78, 73] else []
/-- What a letter names. -/
def ch (c : UInt8) : List Nat := if c = 78 then [1] else if c = 73 then [3] else if c = 74 then [2] else if c = 80 then [4] else [5, 6, 7]
theorem nm_none {k : Int} (h : k ≠ 1 ∧ k ≠ 2 ∧ k ≠ 3 ∧ k ≠ 4 ∧ k ≠ 5 ∧ k ≠ 6 ∧ k ≠ 7) : nm k = [] := by
  unfold nm
  rw [if_neg (by omega), if_neg (by omega), if_neg (by omega), if_neg (by omega), if_neg (by omega)]
theorem nm_offs (k : Int) : (nm k).flatMap ch = offs k := by
  rcases kind_cases k with rfl | rfl | rfl | rfl | rfl | rfl | rfl | h
  all_goals first | rfl | (rw [nm_none h, offs_none h]; rfl)
theorem nm_nil (k : Int) : nm k = [] ↔ offs k = [] := by
  rcases kind_cases k with rfl | rfl | rfl | rfl | rfl | rfl | rfl | h
  all_goals first | (rw [nm_none h, offs_none h]; simp) | simp [nm, offs]
theorem nm_length (k : Int) : (nm k).length ≤ 3 := by
  rcases kind_cases k with rfl | rfl | rfl | rfl | rfl | rfl | rfl | h
  all_goals first | decide | (rw [nm_none h]; simp)
theorem nm_mem (k : Int) (c : UInt8) (h : c ∈ nm k) : c = 78 ∨ c = 73 ∨ c = 74 ∨ c = 80 ∨ c = 82 := by
  rcases kind_cases k with rfl | rfl | rfl | rfl | rfl | rfl | rfl | hk
  all_goals first | (rw [nm_none hk] at h; simp at h; done) | (simp [nm] at h; rcases h with h | h | h <;> simp [h]; done) | (simp [nm] at h; rcases h with h | h <;> simp [h]; done) | (simp [nm] at h; simp [h]; done)
set_option maxRecDepth 100000 in
set_option maxHeartbeats 800000 in
theorem ref18_names (k : Int) (w : World) : Calls Tryd.prog 31 #[.int .i64 k] w fun e w' => e = .returned (.string (str (nm k))) ∧ Below w.heap.size w w' := by
  rcases kind_cases k with rfl | rfl | rfl | rfl | rfl | rfl | rfl | h
  iterate 7
    · go_enter Tryd.func31, Tryd.ntmps31
      go_wp2_with fail
      go_ret
      exact ⟨rfl, (Below.refl _ _).alloc (Nat.le_refl _) _⟩
  rw [nm_none h]
  by_cases h1 : k < 1
  · clear h
    go_enter Tryd.func31, Tryd.ntmps31
    go_wp2_with fail
    go_ret
    exact ⟨rfl, (Below.refl _ _).alloc (Nat.le_refl _) _⟩
  · have h2 : 7 < k := by omega
    have h1' : 1 ≤ k := by omega
    clear h h1
    go_enter Tryd.func31, Tryd.ntmps31
    go_wp2_with fail
    go_ret
    exact ⟨rfl, (Below.refl _ _).alloc (Nat.le_refl _) _⟩
end Go.Proofs.YtanihdpgblkeaaaDoor
