/-
  The walk of the statement EventGets.
-/
import Derived.Test.YtokghlmffkboiaaAwake18
namespace Go.Proofs.Ytokghlmffkboiaa
open Go.RowKit
set_option linter.unusedVariables false
set_option linter.unusedSimpArgs false

theorem getL_length (s : ByteArray) : (getL s).1.length = 8 := by
  by_cases h : (getL s).2 = 0
  · exact (put_get s h).2.2.1
  · rw [getL_err s h]; rfl
set_option maxRecDepth 100000 in
set_option maxHeartbeats 1600000 in
theorem walk_EventGets (s : ByteArray) (w : World) (hs : s.size ≤ maxLen) :
    Calls Try.prog 4 #[.string s] w fun e w' => e = .returned (.bool true) ∧ Below w.heap.size w w' := by
  have hs63 : s.size ≤ 9223372036854775807 := by unfold maxLen at hs; omega
  by_cases hbig : 200 < s.size
  · have hbI : (200 : Int) < (s.size : Int) := by omega
    clear hbig
    go_enter Try.func4, Try.ntmps4
    go_wp2_with (go_at_call 13; refine (awake18 _).mono ?_; rintro e w' ⟨rfl, hb⟩)
    go_ret
    exact ⟨rfl, hb⟩
  · have hbI : (s.size : Int) ≤ 200 := by omega
    clear hbig
    have hG := event_get s hs
    have hR := ref18_get s hs
    have hl := getL_length s
    have hq := eql_event (getL s).1 (getL s).1 hl hl
    rw [decide_eq_true (rfl : (getL s).1 = (getL s).1)] at hq
    obtain ⟨a, b, c, d, e', f, g, i, hx⟩ := eight_of hl
    rw [hx] at hG hR hq
    generalize (getL s).2 = E at hG hR
    clear hl hx hs
    have a1 : cellsI [a, b, c, d, e', f, g, i] = #[.int .i64 a, .int .i64 b, .int .i64 c, .int .i64 d, .int .i64 e', .int .i64 f, .int .i64 g, .int .i64 i] := rfl
    rw [a1] at hG hR hq
    clear a1
    have HG := Lib.hid hG
    have HR := Lib.hid hR
    have HQ := Lib.hid hq
    clear hG hR hq
    go_enter Try.func4, Try.ntmps4
    go_wp2_with fail
    refine (HG.out _).mono ?_
    rintro e w1 ⟨rfl, hb1⟩
    have HL1 := Lib.hid hb1
    clear hb1
    go_wp2_with fail
    refine (HR.out _).mono ?_
    rintro e w2 ⟨rfl, hb2⟩
    have X2 : Hid (Blk w2 w1.heap.size #[.int .i64 a, .int .i64 b, .int .i64 c, .int .i64 d, .int .i64 e', .int .i64 f, .int .i64 g, .int .i64 i] 25) := Lib.hid ((Blk.new w1 _ _).below hb2 (by simp))
    have HL2 := Lib.hid ((HL1.out.alloc HL1.out.size _).trans (hb2.mono (by have := HL1.out.size; simp; omega)))
    clear hb2 HL1
    have hq := HQ.out
    have hlt := X2.out.lt
    go_upto_region 5 with fail
    go_wp2_with (first
      | (with_reducible refine ev_load rfl 25 (.tmp 3) rfl w1.heap.size rfl 25 #[.int .i64 a, .int .i64 b, .int .i64 c, .int .i64 d, .int .i64 e', .int .i64 f, .int .i64 g, .int .i64 i] _ (X2.out.alloc _) Try.underlying25 rfl (by kernel_rfl) ?_)
      | (with_reducible refine ev_load rfl 25 (.tmp 5) rfl w2.heap.size rfl 25 #[.int .i64 a, .int .i64 b, .int .i64 c, .int .i64 d, .int .i64 e', .int .i64 f, .int .i64 g, .int .i64 i] _ (Blk.new w2 _ _) Try.underlying25 rfl (by kernel_rfl) ?_))
    refine (awake18 _).mono ?_
    rintro e w3 ⟨rfl, hb3⟩
    have HL3 := Lib.hid ((HL2.out.alloc HL2.out.size _).trans (hb3.mono (by have := HL2.out.size; simp; omega)))
    clear hb3
    go_wp2_with fail
    go_ret
    exact ⟨rfl, HL3.out⟩
end Go.Proofs.Ytokghlmffkboiaa
