/-
  What num.Span and num.Later compute, and the reference's Span and Later: the same.
-/
import Derived.Test.YtdeeeoakdfldkaaBase
import Derived.Lib.MinMax
namespace Go.Proofs.Ytdeeeoakdfldkaa
open Go.RowKit
set_option linter.unusedVariables false
set_option linter.unusedSimpArgs false

/-- The nearest number from lo to hi. -/
def spanI (n lo hi : Int) : Int := if n > hi then (if hi < lo then lo else hi) else (if n < lo then lo else n)
/-- A tick so many ticks later. -/
def laterI (a b : Int) : Int := spanI (spanI a 0 1099511627776 + spanI b 0 1099511627776) 0 1099511627776

theorem spanI_bd (n : Int) : 0 ≤ spanI n 0 1099511627776 ∧ spanI n 0 1099511627776 ≤ 1099511627776 := by
  unfold spanI; split <;> split <;> omega
theorem laterI_bd (a b : Int) : 0 ≤ laterI a b ∧ laterI a b ≤ 1099511627776 := spanI_bd _

theorem laterI_le (n x : Int) (h0 : 0 ≤ n) (h1 : n ≤ 1099511627776) : n ≤ laterI n x := by
  unfold laterI spanI; (repeat' split) <;> omega
theorem laterI_gt (n x : Int) (h0 : 0 ≤ n) (h1 : n < 1099511627776) (hx : 0 < x) : n < laterI n x := by
  unfold laterI spanI; (repeat' split) <;> omega

theorem ref_span (n lo hi : Int) (w : World) : Calls Try.prog 54 #[.int .i64 n, .int .i64 lo, .int .i64 hi] w fun e w' => e = .returned (.int .i64 (spanI n lo hi)) ∧ w = w' := by
  by_cases h1 : hi < n <;> by_cases h2 : hi < lo <;> by_cases h3 : n < lo
  all_goals
    go_enter Try.func54, Try.ntmps54
    go_wp2
    go_ret
    exact ⟨by simp [spanI, *] <;> omega, rfl⟩

theorem num_span (n lo hi : Int) (w : World) : Calls Try.prog 58 #[.int .i64 n, .int .i64 lo, .int .i64 hi] w fun e w' => e = .returned (.int .i64 (spanI n lo hi)) ∧ w = w' := by
  go_enter Try.func58, Try.ntmps58
  go_wp2
  go_ret
  refine ⟨?_, rfl⟩
  have e : max (min n hi) lo = spanI n lo hi := by unfold spanI; split <;> split <;> omega
  exact congrArg (fun x => Ending.returned (.int .i64 x)) e

theorem num_later1 (n : Int) (w : World) : Calls Try.prog 57 #[.int .i64 n] w fun e w' => e = .returned (.int .i64 (spanI n 0 1099511627776)) ∧ w = w' := by
  go_enter Try.func57, Try.ntmps57
  go_wp2_with (go_at_call 58; refine (num_span n 0 1099511627776 _).mono ?_; rintro e w' ⟨rfl, rfl⟩)
  go_ret
  exact ⟨rfl, rfl⟩

theorem num_later (a b : Int) (w : World) : Calls Try.prog 44 #[.int .i64 a, .int .i64 b] w fun e w' => e = .returned (.int .i64 (laterI a b)) ∧ w = w' := by
  have b1 := spanI_bd a
  have b2 := spanI_bd b
  have e1 : wrap64 (spanI a 0 1099511627776 + spanI b 0 1099511627776) = spanI a 0 1099511627776 + spanI b 0 1099511627776 := by unfold wrap64; omega
  have E := Lib.hid e1
  clear e1
  go_enter Try.func44, Try.ntmps44
  go_wp2_with fail
  refine (num_later1 a _).mono ?_; rintro e w' ⟨rfl, rfl⟩
  go_wp2_with fail
  refine (num_later1 b _).mono ?_; rintro e w' ⟨rfl, rfl⟩
  go_wp2_with fail
  refine (num_later1 (spanI a 0 1099511627776 + spanI b 0 1099511627776) _).mono ?_; rintro e w' ⟨rfl, rfl⟩
  go_wp2
  go_ret
  exact ⟨rfl, rfl⟩

theorem ref_later (a b : Int) (w : World) : Calls Try.prog 41 #[.int .i64 a, .int .i64 b] w fun e w' => e = .returned (.int .i64 (laterI a b)) ∧ w = w' := by
  have b1 := spanI_bd a
  have b2 := spanI_bd b
  go_enter Try.func41, Try.ntmps41
  go_wp2_with fail
  refine (ref_span a 0 1099511627776 _).mono ?_; rintro e w' ⟨rfl, rfl⟩
  go_wp2_with fail
  refine (ref_span b 0 1099511627776 _).mono ?_; rintro e w' ⟨rfl, rfl⟩
  go_wp2_with fail
  refine (ref_span (spanI a 0 1099511627776 + spanI b 0 1099511627776) 0 1099511627776 _).mono ?_; rintro e w' ⟨rfl, rfl⟩
  go_wp2
  go_ret
  exact ⟨rfl, rfl⟩
end Go.Proofs.Ytdeeeoakdfldkaa
