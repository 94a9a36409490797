/-
  The walks of the statements on package fence: FencePlays and FenceRises return true, and write nothing that was there.
-/
import Derived.Test.YtdeeeoakdfldkaaFence
namespace Go.Proofs.Ytdeeeoakdfldkaa
open Go.RowKit
set_option linter.unusedVariables false
set_option linter.unusedSimpArgs false

theorem ref17_yes (ep yes no n : Int) (h1 : 1 ≤ n) (h2 : n ≤ 4294967295) (h3 : ep ≤ n) (w : World) :
    Calls Try.prog 12 #[.agg #[.int .i64 ep, .int .i64 yes, .int .i64 no], .int .i64 n] w fun e w' => e = .returned (.tuple #[.agg #[.int .i64 n, .int .i64 (wrap64 (yes + 1)), .int .i64 no], .bool true]) ∧ Below w.heap.size w w' := by
  go_enter Try.func12, Try.ntmps12
  go_wp2
  go_returns
  refine ⟨rfl, ?_⟩
  go_grown

theorem ref17_no (ep yes no n : Int) (h : n < 1 ∨ 4294967295 < n ∨ n < ep) (w : World) :
    Calls Try.prog 12 #[.agg #[.int .i64 ep, .int .i64 yes, .int .i64 no], .int .i64 n] w fun e w' => e = .returned (.tuple #[.agg #[.int .i64 ep, .int .i64 yes, .int .i64 (wrap64 (no + 1))], .bool false]) ∧ Below w.heap.size w w' := by
  by_cases h1 : n < 1
  · clear h
    go_enter Try.func12, Try.ntmps12
    go_wp2
    go_returns
    refine ⟨rfl, ?_⟩
    go_grown
  · by_cases h2 : 4294967295 < n
    · clear h
      go_enter Try.func12, Try.ntmps12
      go_wp2
      go_returns
      refine ⟨rfl, ?_⟩
      go_grown
    · have h3 : n < ep := by omega
      clear h
      go_enter Try.func12, Try.ntmps12
      go_wp2
      go_returns
      refine ⟨rfl, ?_⟩
      go_grown

theorem awake17 (w : World) : Calls Try.prog 10 #[] w fun e w' => e = .returned (.bool true) ∧ Below w.heap.size w w' := by
  have hnot : ∀ (x : Bool) (w : World), (Op.unary .not (.bool x)).run Try.prog w = .ok (.bool (!x)) w := fun _ _ => rfl
  have wr1 : wrap64 1 = 1 := by unfold wrap64; omega
  have wr2 : wrap64 2 = 2 := by unfold wrap64; omega
  go_enter Try.func10, Try.ntmps10
  go_wp2_with fail
  refine (fence_new _).mono ?_; rintro e w' ⟨rfl, rfl⟩
  go_wp2_with fail
  refine (pass_yes w.heap.size 0 0 0 3 (by omega) (by omega) (by omega) _ (by go_simp) (by go_simp) (by go_simp) (by go_simp)).mono ?_; rintro e w' ⟨rfl, rfl⟩
  go_wp2_with fail
  refine (pass_fence w.heap.size 0 3 0 2 (by omega) (by omega) (by omega) _ (by go_simp) (by go_simp) (by go_simp)).mono ?_; rintro e w' ⟨rfl, rfl⟩
  go_wp2_with fail
  refine (pass_yes w.heap.size 0 3 1 3 (by omega) (by omega) (by omega) _ (by go_simp) (by go_simp) (by go_simp) (by go_simp)).mono ?_; rintro e w' ⟨rfl, rfl⟩
  go_wp2_with fail
  refine (passed_any w.heap.size 0 2 1 _ (by go_simp) (by go_simp)).mono ?_; rintro e w' ⟨rfl, n, rfl⟩
  go_wp2_with (go_at_call 15; refine (epoch_any _ _ 3 _ (by go_simp)).mono ?_; rintro e w' ⟨rfl, rfl⟩)
  go_ret
  refine ⟨by simp, below_drewN ?_ _⟩
  go_grown

/-- Three numbers lie in a block's first cells, which may be written. -/
def Three (w : World) (b : Nat) (x y z : Int) : Prop :=
  (w.cell? ⟨b, 0, none⟩ = some (.int .i64 x) ∧ w.cell? ⟨b, 1, none⟩ = some (.int .i64 y) ∧ w.cell? ⟨b, 2, none⟩ = some (.int .i64 z)) ∧
  w.frozen? ⟨b, 0, none⟩ = false ∧ w.frozen? ⟨b, 1, none⟩ = false ∧ w.frozen? ⟨b, 2, none⟩ = false


theorem three_set0 {w : World} {b : Nat} {x y z : Int} (h : Three w b x y z) (x' : Int) : Three (w.setCell ⟨b, 0, none⟩ (.int .i64 x')) b x' y z := by
  obtain ⟨⟨h0, h1, h2⟩, g0, g1, g2⟩ := h
  unfold Three; go_simp
theorem three_set1 {w : World} {b : Nat} {x y z : Int} (h : Three w b x y z) (x' : Int) : Three (w.setCell ⟨b, 1, none⟩ (.int .i64 x')) b x x' z := by
  obtain ⟨⟨h0, h1, h2⟩, g0, g1, g2⟩ := h
  unfold Three; go_simp
theorem three_set2 {w : World} {b : Nat} {x y z : Int} (h : Three w b x y z) (x' : Int) : Three (w.setCell ⟨b, 2, none⟩ (.int .i64 x')) b x y x' := by
  obtain ⟨⟨h0, h1, h2⟩, g0, g1, g2⟩ := h
  unfold Three; go_simp
end Go.Proofs.Ytdeeeoakdfldkaa
