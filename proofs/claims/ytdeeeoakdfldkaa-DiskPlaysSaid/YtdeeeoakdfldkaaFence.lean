/-
  What the functions of package fence compute (reeve's layer 17), as contracts: for whatever world holds a fence's three cells.
-/
import Derived.Test.YtdeeeoakdfldkaaBase
namespace Go.Proofs.Ytdeeeoakdfldkaa
open Go.RowKit
set_option linter.unusedVariables false
set_option linter.unusedSimpArgs false

theorem i64_load (b o : Nat) (x : Int) (w : World) (h : w.cell? ⟨b, o, none⟩ = some (.int .i64 x)) :
    Calls Try.prog 37 #[.pointer (some ⟨b, o, none⟩)] w fun e w' => e = .returned (.int .i64 x) ∧ w = w' := by
  have hl := run_call_load (P := Try.prog) Try.func50 (by kernel_rfl) (by kernel_rfl) (by kernel_rfl) .i64 (by kernel_rfl) h
  go_enter Try.func37, Try.ntmps37
  go_wp2
  go_ret
  exact ⟨rfl, rfl⟩

theorem i64_add (b o : Nat) (x : Int) (w : World) (h : w.cell? ⟨b, o, none⟩ = some (.int .i64 x)) (hf : w.frozen? ⟨b, o, none⟩ = false) :
    Calls Try.prog 36 #[.pointer (some ⟨b, o, none⟩), .int .i64 1] w fun e w' => e = .returned (.int .i64 (wrap64 (x + 1))) ∧ w.setCell ⟨b, o, none⟩ (.int .i64 (wrap64 (x + 1))) = w' := by
  have hl := run_call_add (P := Try.prog) (y := 1) (s := wrap64 (x + 1)) Try.func49 (by kernel_rfl) (by kernel_rfl) (by kernel_rfl) .i64 (by kernel_rfl) h hf (by simp [go_sem, wrap64, IntKind.wrap_i64])
  go_enter Try.func36, Try.ntmps36
  go_wp2
  go_ret
  exact ⟨rfl, rfl⟩

theorem i64_cas (b o : Nat) (x y : Int) (w : World) (h : w.cell? ⟨b, o, none⟩ = some (.int .i64 x)) (hf : w.frozen? ⟨b, o, none⟩ = false) :
    Calls Try.prog 43 #[.pointer (some ⟨b, o, none⟩), .int .i64 x, .int .i64 y] w fun e w' => e = .returned (.bool true) ∧ w.setCell ⟨b, o, none⟩ (.int .i64 y) = w' := by
  have hl := run_call_cas_hit (P := Try.prog) (y := y) Try.func56 (by kernel_rfl) (by kernel_rfl) (by kernel_rfl) .i64 (by kernel_rfl) h hf
  go_enter Try.func43, Try.ntmps43
  go_wp2
  go_ret
  exact ⟨rfl, rfl⟩

theorem num_right (n l m : Int) (w : World) : Calls Try.prog 34 #[.int .i64 n, .int .i64 l, .int .i64 m] w fun e w' => e = .returned (.bool (decide (l ≤ n) && decide (n ≤ m))) ∧ w = w' := by
  by_cases h1 : l ≤ n <;> by_cases h2 : n ≤ m
  all_goals
    go_enter Try.func34, Try.ntmps34
    go_wp2
    go_ret
    exact ⟨by simp [*], rfl⟩

theorem raise_yes (b o : Nat) (x y : Int) (hxy : x ≤ y) (w : World) (h : w.cell? ⟨b, o, none⟩ = some (.int .i64 x)) (hf : w.frozen? ⟨b, o, none⟩ = false) :
    Calls Try.prog 35 #[.pointer (some ⟨b, o, none⟩), .int .i64 y] w fun e w' => e = .returned (.bool true) ∧ w.setCell ⟨b, o, none⟩ (.int .i64 y) = w' := by
  go_enter Try.func35, Try.ntmps35
  go_wp2
  refine wp_loop_rounds 1 ?_
  rw [rounds_succ]
  go_wp2_with (first | (go_at_call 37; refine (i64_load b o x _ h).mono ?_; rintro e w' ⟨rfl, rfl⟩) | (go_at_call 43; refine (i64_cas b o x y _ h hf).mono ?_; rintro e w' ⟨rfl, rfl⟩))
  go_ret
  exact ⟨rfl, rfl⟩

theorem raise_no (b o : Nat) (x y : Int) (hxy : y < x) (w : World) (h : w.cell? ⟨b, o, none⟩ = some (.int .i64 x)) :
    Calls Try.prog 35 #[.pointer (some ⟨b, o, none⟩), .int .i64 y] w fun e w' => e = .returned (.bool false) ∧ w = w' := by
  go_enter Try.func35, Try.ntmps35
  go_wp2
  refine wp_loop_rounds 1 ?_
  rw [rounds_succ]
  go_wp2_with (first | (go_at_call 37; refine (i64_load b o x _ h).mono ?_; rintro e w' ⟨rfl, rfl⟩))
  go_ret
  exact ⟨rfl, rfl⟩

theorem pass_yes (b o : Nat) (ep yes : Int) (n : Int) (h1 : 1 ≤ n) (h2 : n ≤ 4294967295) (h3 : ep ≤ n) (w : World)
    (c0 : w.cell? ⟨b, o, none⟩ = some (.int .i64 ep)) (c1 : w.cell? ⟨b, o + 1, none⟩ = some (.int .i64 yes))
    (f0 : w.frozen? ⟨b, o, none⟩ = false) (f1 : w.frozen? ⟨b, o + 1, none⟩ = false) :
    Calls Try.prog 13 #[.pointer (some ⟨b, o, none⟩), .int .i64 n] w fun e w' => e = .returned (.bool true) ∧ (w.setCell ⟨b, o, none⟩ (.int .i64 n)).setCell ⟨b, o + 1, none⟩ (.int .i64 (wrap64 (yes + 1))) = w' := by
  have hr : (decide (1 ≤ n) && decide (n ≤ 4294967295)) = true := by simp [h1, h2]
  have hnot : ∀ (x : Bool) (w : World), (Op.unary .not (.bool x)).run Try.prog w = .ok (.bool (!x)) w := fun _ _ => rfl
  go_enter Try.func13, Try.ntmps13
  go_wp2_with (first | (go_at_call 34; refine (num_right n 1 4294967295 _).mono ?_; rintro e w' ⟨rfl, rfl⟩) | (go_at_call 35; refine (raise_yes b o ep n (by omega) _ c0 f0).mono ?_; rintro e w' ⟨rfl, rfl⟩) | (go_at_call 36; refine (i64_add b (o + 1) yes _ (by go_simp) (by go_simp)).mono ?_; rintro e w' ⟨rfl, rfl⟩))
  go_ret
  exact ⟨rfl, rfl⟩

theorem pass_fence (b o : Nat) (ep no : Int) (n : Int) (h1 : 1 ≤ n) (h2 : n ≤ 4294967295) (h3 : n < ep) (w : World)
    (c0 : w.cell? ⟨b, o, none⟩ = some (.int .i64 ep)) (c2 : w.cell? ⟨b, o + 2, none⟩ = some (.int .i64 no))
    (f2 : w.frozen? ⟨b, o + 2, none⟩ = false) :
    Calls Try.prog 13 #[.pointer (some ⟨b, o, none⟩), .int .i64 n] w fun e w' => e = .returned (.bool false) ∧ w.setCell ⟨b, o + 2, none⟩ (.int .i64 (wrap64 (no + 1))) = w' := by
  have hr : (decide (1 ≤ n) && decide (n ≤ 4294967295)) = true := by simp [h1, h2]
  have hnot : ∀ (x : Bool) (w : World), (Op.unary .not (.bool x)).run Try.prog w = .ok (.bool (!x)) w := fun _ _ => rfl
  go_enter Try.func13, Try.ntmps13
  go_wp2_with (first | (go_at_call 34; refine (num_right n 1 4294967295 _).mono ?_; rintro e w' ⟨rfl, rfl⟩) | (go_at_call 35; refine (raise_no b o ep n (by omega) _ c0).mono ?_; rintro e w' ⟨rfl, rfl⟩) | (go_at_call 36; refine (i64_add b (o + 2) no _ (by go_simp) (by go_simp)).mono ?_; rintro e w' ⟨rfl, rfl⟩))
  go_ret
  exact ⟨rfl, rfl⟩

theorem pass_out (b o : Nat) (no : Int) (n : Int) (h1 : n < 1 ∨ 4294967295 < n) (w : World)
    (c2 : w.cell? ⟨b, o + 2, none⟩ = some (.int .i64 no))
    (f2 : w.frozen? ⟨b, o + 2, none⟩ = false) :
    Calls Try.prog 13 #[.pointer (some ⟨b, o, none⟩), .int .i64 n] w fun e w' => e = .returned (.bool false) ∧ w.setCell ⟨b, o + 2, none⟩ (.int .i64 (wrap64 (no + 1))) = w' := by
  have hr : (decide (1 ≤ n) && decide (n ≤ 4294967295)) = false := by simp; omega
  have hnot : ∀ (x : Bool) (w : World), (Op.unary .not (.bool x)).run Try.prog w = .ok (.bool (!x)) w := fun _ _ => rfl
  go_enter Try.func13, Try.ntmps13
  go_wp2_with (first | (go_at_call 34; refine (num_right n 1 4294967295 _).mono ?_; rintro e w' ⟨rfl, rfl⟩) | (go_at_call 36; refine (i64_add b (o + 2) no _ (by go_simp) (by go_simp)).mono ?_; rintro e w' ⟨rfl, rfl⟩))
  go_ret
  exact ⟨rfl, rfl⟩

theorem pass_no (b o : Nat) (ep no : Int) (n : Int) (h : n < 1 ∨ 4294967295 < n ∨ n < ep) (w : World)
    (c0 : w.cell? ⟨b, o, none⟩ = some (.int .i64 ep)) (c2 : w.cell? ⟨b, o + 2, none⟩ = some (.int .i64 no))
    (f2 : w.frozen? ⟨b, o + 2, none⟩ = false) :
    Calls Try.prog 13 #[.pointer (some ⟨b, o, none⟩), .int .i64 n] w fun e w' => e = .returned (.bool false) ∧ w.setCell ⟨b, o + 2, none⟩ (.int .i64 (wrap64 (no + 1))) = w' := by
  by_cases h1 : n < 1 ∨ 4294967295 < n
  · exact pass_out b o no n h1 w c2 f2
  · exact pass_fence b o ep no n (by omega) (by omega) (by omega) w c0 c2 f2

theorem pass_nil (n : Int) (w : World) :
    Calls Try.prog 13 #[.pointer none, .int .i64 n] w fun e w' => e = .returned (.bool false) ∧ w = w' := by
  go_enter Try.func13, Try.ntmps13
  go_wp2
  go_ret
  exact ⟨rfl, rfl⟩

theorem epoch_any (b o : Nat) (x : Int) (w : World) (h : w.cell? ⟨b, o, none⟩ = some (.int .i64 x)) :
    Calls Try.prog 15 #[.pointer (some ⟨b, o, none⟩)] w fun e w' => e = .returned (.int .i64 x) ∧ w = w' := by
  go_enter Try.func15, Try.ntmps15
  go_wp2_with (first | (go_at_call 37; refine (i64_load b o x _ h).mono ?_; rintro e w' ⟨rfl, rfl⟩))
  go_ret
  exact ⟨rfl, rfl⟩

theorem epoch_nil (w : World) :
    Calls Try.prog 15 #[.pointer none] w fun e w' => e = .returned (.int .i64 0) ∧ w = w' := by
  go_enter Try.func15, Try.ntmps15
  go_wp2
  go_ret
  exact ⟨rfl, rfl⟩

theorem passed_any (b o : Nat) (x y : Int) (w : World) (h1 : w.cell? ⟨b, o + 1, none⟩ = some (.int .i64 x)) (h2 : w.cell? ⟨b, o + 2, none⟩ = some (.int .i64 y)) :
    Calls Try.prog 14 #[.pointer (some ⟨b, o, none⟩)] w fun e w' => e = .returned (.tuple #[.int .i64 x, .int .i64 y]) ∧ ∃ n, w' = w.drewN n := by
  go_enter Try.func14, Try.ntmps14
  go_wp2
  go_quiet ((go_at_call 37; exact quiet_eq (i64_load _ _ _ _ (by first | exact h1 | exact h2))))
  go_wp2
  go_ret2
  exact ⟨rfl, _, rfl⟩

theorem passed_nil (w : World) :
    Calls Try.prog 14 #[.pointer none] w fun e w' => e = .returned (.tuple #[.int .i64 0, .int .i64 0]) ∧ w = w' := by
  go_enter Try.func14, Try.ntmps14
  go_wp2
  go_ret2
  exact ⟨rfl, rfl⟩

theorem fence_new (w : World) :
    Calls Try.prog 11 #[] w fun e w' => e = .returned (.pointer (some ⟨w.heap.size, 0, none⟩)) ∧ w.alloc (.cells #[.int .i64 0, .int .i64 0, .int .i64 0] 32) = w' := by
  go_enter Try.func11, Try.ntmps11
  go_wp2
  go_ret
  exact ⟨rfl, rfl⟩
end Go.Proofs.Ytdeeeoakdfldkaa
