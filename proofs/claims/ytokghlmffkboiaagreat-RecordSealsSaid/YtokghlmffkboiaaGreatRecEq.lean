/-
  Two records are equal where each number is (reeve's layer 20).
-/
import Derived.Test.YtokghlmffkboiaaGreatRecMath
namespace Go.Proofs.YtokghlmffkboiaaGreat
open Go.RowKit
set_option linter.unusedVariables false
set_option linter.unusedSimpArgs false

set_option maxHeartbeats 1600000 in
theorem eqIn_rec (a b : List Int) (ha : a.length = 10) (hb : b.length = 10) (d : Nat) (w : World) :
    (Op.equalIn (d + 4) 27 (.agg (cellsI a)) (.agg (cellsI b))).run Tryz.prog w = .ok (decide (a = b)) w := by
  obtain ⟨aq, at', a0, a1, a2, a3, a4, a5, a6, a7, rfl⟩ := ten_of ha
  obtain ⟨bq, bt, b0, b1, b2, b3, b4, b5, b6, b7, rfl⟩ := ten_of hb
  rw [run_equalIn_agg w (d + 3) _ _ _ (by kernel_rfl) (by kernel_rfl)]
  have he : ∀ (a b : Int) (w : World), (Op.equalIn (d + 3) 3 (.int .i64 a) (.int .i64 b)).run Tryz.prog w = .ok (a == b) w := fun a b w => run_equalIn_int w (d + 2) _ _ _ a b Tryz.underlying3
  have hf : (Tryz.prog.fieldsOf 27).toList.map (fun f => (f.name, f.type, f.offset)) = [("Seq", 3, 0), ("Epoch", 3, 1), ("Event", 25, 2)] := by kernel_rfl
  generalize (Tryz.prog.fieldsOf 27).toList = fs at hf
  have hlen := congrArg List.length hf
  rw [List.length_map] at hlen
  match fs, hlen with
  | [f0, f1, f2], _ =>
    simp only [List.map_cons, List.map_nil, List.cons.injEq, Prod.mk.injEq, and_true] at hf
    obtain ⟨⟨n0, t0, o0⟩, ⟨n1, t1, o1⟩, ⟨n2, t2, o2⟩⟩ := hf
    have p0 : ∀ (x0 x1 x2 x3 x4 x5 x6 x7 x8 x9 : Value) (w : World), (part 3 #[x0, x1, x2, x3, x4, x5, x6, x7, x8, x9] 0).run Tryz.prog w = .ok x0 w := fun _ _ _ _ _ _ _ _ _ _ _ => by kernel_rfl
    have p1 : ∀ (x0 x1 x2 x3 x4 x5 x6 x7 x8 x9 : Value) (w : World), (part 3 #[x0, x1, x2, x3, x4, x5, x6, x7, x8, x9] 1).run Tryz.prog w = .ok x1 w := fun _ _ _ _ _ _ _ _ _ _ _ => by kernel_rfl
    have p2 : ∀ (x0 x1 x2 x3 x4 x5 x6 x7 x8 x9 : Value) (w : World), (part 25 #[x0, x1, x2, x3, x4, x5, x6, x7, x8, x9] 2).run Tryz.prog w = .ok (.agg #[x2, x3, x4, x5, x6, x7, x8, x9]) w := fun _ _ _ _ _ _ _ _ _ _ _ => by kernel_rfl
    have hr : ∀ w, (Op.equalIn (d + 3) 25 (.agg #[.int .i64 a0, .int .i64 a1, .int .i64 a2, .int .i64 a3, .int .i64 a4, .int .i64 a5, .int .i64 a6, .int .i64 a7]) (.agg #[.int .i64 b0, .int .i64 b1, .int .i64 b2, .int .i64 b3, .int .i64 b4, .int .i64 b5, .int .i64 b6, .int .i64 b7])).run Tryz.prog w = .ok (decide ([a0, a1, a2, a3, a4, a5, a6, a7] = [b0, b1, b2, b3, b4, b5, b6, b7])) w := fun w => eqIn_event [a0, a1, a2, a3, a4, a5, a6, a7] [b0, b1, b2, b3, b4, b5, b6, b7] rfl rfl d w
    have hl : ∀ l : List Int, cellsI l = (l.map (Value.int .i64)).toArray := fun _ => rfl
    obtain ⟨D, hD⟩ : ∃ D, decide ([a0, a1, a2, a3, a4, a5, a6, a7] = [b0, b1, b2, b3, b4, b5, b6, b7]) = D := ⟨_, rfl⟩
    have hfin : decide ([aq, at', a0, a1, a2, a3, a4, a5, a6, a7] = [bq, bt, b0, b1, b2, b3, b4, b5, b6, b7]) = (aq == bq && (at' == bt && D)) := by
      rw [← hD]
      by_cases e0 : aq = bq <;> by_cases e1 : at' = bt <;> simp [e0, e1]
    rw [hfin]
    simp only [hD] at hr
    by_cases e0 : aq = bq <;> by_cases e1 : at' = bt <;> cases D <;>
      simp [Op.eqFields, n0, n1, n2, t0, t1, t2, o0, o1, o2, p0, p1, p2, he, hr, hl, e0, e1]
theorem eql_rec (a b : List Int) (ha : a.length = 10) (hb : b.length = 10) (w : World) :
    (binOp .eql 27 (.agg (cellsI a)) (.agg (cellsI b))).run Tryz.prog w = .ok (.bool (decide (a = b))) w := by
  rw [run_eql_struct, eqIn_rec a b ha hb 9996 w]; rfl
theorem neq_rec (a b : List Int) (ha : a.length = 10) (hb : b.length = 10) (w : World) :
    (binOp .neq 27 (.agg (cellsI a)) (.agg (cellsI b))).run Tryz.prog w = .ok (.bool (!decide (a = b))) w := by
  rw [run_neq_struct, eqIn_rec a b ha hb 9996 w]; rfl
end Go.Proofs.YtokghlmffkboiaaGreat
