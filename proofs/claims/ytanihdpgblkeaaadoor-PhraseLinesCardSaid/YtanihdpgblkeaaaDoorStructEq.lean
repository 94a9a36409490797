/-
  Two structs of whole numbers are equal where each number is.
-/
import Derived.Test.YtanihdpgblkeaaaDoorEventMath
namespace Go.Proofs.YtanihdpgblkeaaaDoor
open Go.RowKit
set_option linter.unusedVariables false
set_option linter.unusedSimpArgs false

theorem run_eqIn_res (d : Nat) (a0 a1 a2 b0 b1 b2 : Int) (w : World) :
    (Op.equalIn (d + 2) 23 (.agg #[.int .i64 a0, .int .i64 a1, .int .i64 a2]) (.agg #[.int .i64 b0, .int .i64 b1, .int .i64 b2])).run Tryd.prog w = .ok (a0 == b0 && (a1 == b1 && a2 == b2)) w := by
  have hz : (Tryd.prog.info? 3).map (·.size) = some 1 := by kernel_rfl
  have p0 : ∀ (x y z : Value) (w : World), (part 3 #[x, y, z] 0).run Tryd.prog w = .ok x w := fun _ _ _ _ => by kernel_rfl
  have p1 : ∀ (x y z : Value) (w : World), (part 3 #[x, y, z] 1).run Tryd.prog w = .ok y w := fun _ _ _ _ => by kernel_rfl
  have p2 : ∀ (x y z : Value) (w : World), (part 3 #[x, y, z] 2).run Tryd.prog w = .ok z w := fun _ _ _ _ => by kernel_rfl
  have hs : ∀ w, (sizeOf 3).run Tryd.prog w = .ok 1 w := fun _ => by kernel_rfl
  have he : ∀ (a b : Int) (w : World), (Op.equalIn (d + 1) 3 (.int .i64 a) (.int .i64 b)).run Tryd.prog w = .ok (a == b) w := fun a b w => run_equalIn_int w d _ _ _ a b Tryd.underlying3
  have hr : List.range' 0 3 = [0, 1, 2] := rfl
  rw [Op.equalIn]
  simp only [Sem.run_bind, run_underlying Tryd.underlying23, Result.andThen_ok, hs]
  by_cases e0 : a0 = b0 <;> by_cases e1 : a1 = b1 <;> by_cases e2 : a2 = b2 <;> simp [Std.Legacy.Range.forIn_eq_forIn_range', hr, p0, p1, p2, he, e0, e1, e2]
/-- A list of so many numbers, written out. -/
theorem three_of {l : List Int} (h : l.length = 3) : ∃ a b c, l = [a, b, c] := by
  match l, h with
  | [a, b, c], _ => exact ⟨a, b, c, rfl⟩
theorem eight_of {l : List Int} (h : l.length = 8) : ∃ a b c d e f g i, l = [a, b, c, d, e, f, g, i] := by
  match l, h with
  | [a, b, c, d, e, f, g, i], _ => exact ⟨a, b, c, d, e, f, g, i, rfl⟩
theorem eqIn_res (a b : List Int) (ha : a.length = 3) (hb : b.length = 3) (d : Nat) (w : World) :
    (Op.equalIn (d + 2) 23 (.agg (cellsI a)) (.agg (cellsI b))).run Tryd.prog w = .ok (decide (a = b)) w := by
  obtain ⟨a0, a1, a2, rfl⟩ := three_of ha
  obtain ⟨b0, b1, b2, rfl⟩ := three_of hb
  refine (run_eqIn_res d a0 a1 a2 b0 b1 b2 w).trans ?_
  by_cases e0 : a0 = b0 <;> by_cases e1 : a1 = b1 <;> by_cases e2 : a2 = b2 <;> simp [e0, e1, e2]
/-- Two vectors are equal. -/
theorem eql_res (a b : List Int) (ha : a.length = 3) (hb : b.length = 3) (w : World) :
    (binOp .eql 23 (.agg (cellsI a)) (.agg (cellsI b))).run Tryd.prog w = .ok (.bool (decide (a = b))) w := by
  rw [run_eql_struct, eqIn_res a b ha hb 9998 w]; rfl
theorem eqIn_event (a b : List Int) (ha : a.length = 8) (hb : b.length = 8) (d : Nat) (w : World) :
    (Op.equalIn (d + 3) 25 (.agg (cellsI a)) (.agg (cellsI b))).run Tryd.prog w = .ok (decide (a = b)) w := by
  obtain ⟨a0, a1, a2, a3, a4, a5, a6, a7, rfl⟩ := eight_of ha
  obtain ⟨b0, b1, b2, b3, b4, b5, b6, b7, rfl⟩ := eight_of hb
  rw [run_equalIn_agg w (d + 2) _ _ _ (by kernel_rfl) (by kernel_rfl)]
  have he : ∀ (a b : Int) (w : World), (Op.equalIn (d + 2) 3 (.int .i64 a) (.int .i64 b)).run Tryd.prog w = .ok (a == b) w := fun a b w => run_equalIn_int w (d + 1) _ _ _ a b Tryd.underlying3
  have hf : (Tryd.prog.fieldsOf 25).toList.map (fun f => (f.name, f.type, f.offset)) = [("Kind", 3, 0), ("Node", 3, 1), ("Job", 3, 2), ("Inc", 3, 3), ("Prio", 3, 4), ("Res", 23, 5)] := by kernel_rfl
  generalize (Tryd.prog.fieldsOf 25).toList = fs at hf
  have hlen := congrArg List.length hf
  rw [List.length_map] at hlen
  match fs, hlen with
  | [f0, f1, f2, f3, f4, f5], _ =>
    simp only [List.map_cons, List.map_nil, List.cons.injEq, Prod.mk.injEq, and_true] at hf
    obtain ⟨⟨n0, t0, o0⟩, ⟨n1, t1, o1⟩, ⟨n2, t2, o2⟩, ⟨n3, t3, o3⟩, ⟨n4, t4, o4⟩, ⟨n5, t5, o5⟩⟩ := hf
    have p0 : ∀ (x0 x1 x2 x3 x4 x5 x6 x7 : Value) (w : World), (part 3 #[x0, x1, x2, x3, x4, x5, x6, x7] 0).run Tryd.prog w = .ok x0 w := fun _ _ _ _ _ _ _ _ _ => by kernel_rfl
    have p1 : ∀ (x0 x1 x2 x3 x4 x5 x6 x7 : Value) (w : World), (part 3 #[x0, x1, x2, x3, x4, x5, x6, x7] 1).run Tryd.prog w = .ok x1 w := fun _ _ _ _ _ _ _ _ _ => by kernel_rfl
    have p2 : ∀ (x0 x1 x2 x3 x4 x5 x6 x7 : Value) (w : World), (part 3 #[x0, x1, x2, x3, x4, x5, x6, x7] 2).run Tryd.prog w = .ok x2 w := fun _ _ _ _ _ _ _ _ _ => by kernel_rfl
    have p3 : ∀ (x0 x1 x2 x3 x4 x5 x6 x7 : Value) (w : World), (part 3 #[x0, x1, x2, x3, x4, x5, x6, x7] 3).run Tryd.prog w = .ok x3 w := fun _ _ _ _ _ _ _ _ _ => by kernel_rfl
    have p4 : ∀ (x0 x1 x2 x3 x4 x5 x6 x7 : Value) (w : World), (part 3 #[x0, x1, x2, x3, x4, x5, x6, x7] 4).run Tryd.prog w = .ok x4 w := fun _ _ _ _ _ _ _ _ _ => by kernel_rfl
    have p5 : ∀ (x0 x1 x2 x3 x4 x5 x6 x7 : Value) (w : World), (part 23 #[x0, x1, x2, x3, x4, x5, x6, x7] 5).run Tryd.prog w = .ok (.agg #[x5, x6, x7]) w := fun _ _ _ _ _ _ _ _ _ => by kernel_rfl
    have hr := run_eqIn_res d a5 a6 a7 b5 b6 b7
    have hl : ∀ l : List Int, cellsI l = (l.map (Value.int .i64)).toArray := fun _ => rfl
    by_cases e0 : a0 = b0 <;> by_cases e1 : a1 = b1 <;> by_cases e2 : a2 = b2 <;> by_cases e3 : a3 = b3 <;> by_cases e4 : a4 = b4 <;>
      simp [Op.eqFields, n0, n1, n2, n3, n4, n5, t0, t1, t2, t3, t4, t5, o0, o1, o2, o3, o4, o5, p0, p1, p2, p3, p4, p5, he, hr, hl, e0, e1, e2, e3, e4]
    split <;> simp_all
/-- Two events are equal, or not. -/
theorem eql_event (a b : List Int) (ha : a.length = 8) (hb : b.length = 8) (w : World) :
    (binOp .eql 25 (.agg (cellsI a)) (.agg (cellsI b))).run Tryd.prog w = .ok (.bool (decide (a = b))) w := by
  rw [run_eql_struct, eqIn_event a b ha hb 9997 w]; rfl
theorem neq_event (a b : List Int) (ha : a.length = 8) (hb : b.length = 8) (w : World) :
    (binOp .neq 25 (.agg (cellsI a)) (.agg (cellsI b))).run Tryd.prog w = .ok (.bool (!decide (a = b))) w := by
  rw [run_neq_struct, eqIn_event a b ha hb 9997 w]; rfl
end Go.Proofs.YtanihdpgblkeaaaDoor
