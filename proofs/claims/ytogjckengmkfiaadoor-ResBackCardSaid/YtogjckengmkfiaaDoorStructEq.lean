/-
  Two structs of whole numbers are equal where each number is.
-/
import Derived.Test.YtogjckengmkfiaaDoorEventMath
namespace Go.Proofs.YtogjckengmkfiaaDoor
open Go.RowKit
set_option linter.unusedVariables false
set_option linter.unusedSimpArgs false

theorem run_eqIn_res (d : Nat) (a0 a1 a2 b0 b1 b2 : Int) (w : World) :
    (Op.equalIn (d + 2) 53 (.agg #[.int .i64 a0, .int .i64 a1, .int .i64 a2]) (.agg #[.int .i64 b0, .int .i64 b1, .int .i64 b2])).run Tryd.prog w = .ok (a0 == b0 && (a1 == b1 && a2 == b2)) w := by
  have hz : (Tryd.prog.info? 3).map (·.size) = some 1 := by kernel_rfl
  have p0 : ∀ (x y z : Value) (w : World), (part 3 #[x, y, z] 0).run Tryd.prog w = .ok x w := fun _ _ _ _ => by kernel_rfl
  have p1 : ∀ (x y z : Value) (w : World), (part 3 #[x, y, z] 1).run Tryd.prog w = .ok y w := fun _ _ _ _ => by kernel_rfl
  have p2 : ∀ (x y z : Value) (w : World), (part 3 #[x, y, z] 2).run Tryd.prog w = .ok z w := fun _ _ _ _ => by kernel_rfl
  have hs : ∀ w, (sizeOf 3).run Tryd.prog w = .ok 1 w := fun _ => by kernel_rfl
  have he : ∀ (a b : Int) (w : World), (Op.equalIn (d + 1) 3 (.int .i64 a) (.int .i64 b)).run Tryd.prog w = .ok (a == b) w := fun a b w => run_equalIn_int w d _ _ _ a b Tryd.underlying3
  have hr : List.range' 0 3 = [0, 1, 2] := rfl
  rw [Op.equalIn]
  simp only [Sem.run_bind, run_underlying Tryd.underlying53, Result.andThen_ok, hs]
  by_cases e0 : a0 = b0 <;> by_cases e1 : a1 = b1 <;> by_cases e2 : a2 = b2 <;> simp [Std.Legacy.Range.forIn_eq_forIn_range', hr, p0, p1, p2, he, e0, e1, e2]
/-- A list of so many numbers, written out. -/
theorem three_of {l : List Int} (h : l.length = 3) : ∃ a b c, l = [a, b, c] := by
  match l, h with
  | [a, b, c], _ => exact ⟨a, b, c, rfl⟩
theorem eight_of {l : List Int} (h : l.length = 8) : ∃ a b c d e f g i, l = [a, b, c, d, e, f, g, i] := by
  match l, h with
  | [a, b, c, d, e, f, g, i], _ => exact ⟨a, b, c, d, e, f, g, i, rfl⟩
theorem eqIn_res (a b : List Int) (ha : a.length = 3) (hb : b.length = 3) (d : Nat) (w : World) :
    (Op.equalIn (d + 2) 53 (.agg (cellsI a)) (.agg (cellsI b))).run Tryd.prog w = .ok (decide (a = b)) w := by
  obtain ⟨a0, a1, a2, rfl⟩ := three_of ha
  obtain ⟨b0, b1, b2, rfl⟩ := three_of hb
  refine (run_eqIn_res d a0 a1 a2 b0 b1 b2 w).trans ?_
  by_cases e0 : a0 = b0 <;> by_cases e1 : a1 = b1 <;> by_cases e2 : a2 = b2 <;> simp [e0, e1, e2]
/-- Two vectors are equal. -/
theorem eql_res (a b : List Int) (ha : a.length = 3) (hb : b.length = 3) (w : World) :
    (binOp .eql 53 (.agg (cellsI a)) (.agg (cellsI b))).run Tryd.prog w = .ok (.bool (decide (a = b))) w := by
  rw [run_eql_struct, eqIn_res a b ha hb 9998 w]; rfl
end Go.Proofs.YtogjckengmkfiaaDoor
