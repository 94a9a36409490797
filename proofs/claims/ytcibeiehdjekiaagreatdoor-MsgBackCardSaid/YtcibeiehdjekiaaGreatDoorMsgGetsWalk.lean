/-
  The walk of the statement MsgGets.
-/
import Derived.Test.YtcibeiehdjekiaaGreatDoorMsgLaid
import Derived.Test.YtcibeiehdjekiaaGreatDoorAwake35
import Derived.Test.YtcibeiehdjekiaaGreatDoorMsgRefGet
namespace Go.Proofs.YtcibeiehdjekiaaGreatDoor
open Go.RowKit
set_option linter.unusedVariables false
set_option linter.unusedSimpArgs false

theorem getM_length (s : ByteArray) : (getM s).1.length = 12 := by
  by_cases h : (getM s).2 = 0
  · exact (put_getM s h).2.1
  · rw [getM_err s h]; rfl
set_option maxRecDepth 100000 in
set_option maxHeartbeats 1600000 in
theorem walk_MsgGets (s : ByteArray) (w : World) (hs : s.size ≤ maxLen) (hLR : laidMetH Tryz.prog Rows.msgGetsRow.laid w) :
    Calls Tryz.prog 4 #[.string s] w fun e w' => e = .returned (.bool true) ∧ Below w.heap.size w w' := by
  have hu := Tryz.underlying25
  have hs63 : s.size ≤ 9223372036854775807 := by unfold maxLen at hs; omega
  have HL0 := Lib.hid (laid_msg_Gets hLR)
  clear hLR
  by_cases hbig : 300 < s.size
  · have hbI : (300 : Int) < (s.size : Int) := by omega
    clear hbig
    go_enter Tryz.func4, Tryz.ntmps4
    go_wp2_with (go_at_call 6; refine (awake35 _ HL0.out).mono ?_; rintro e w' ⟨rfl, hb⟩)
    go_ret
    exact ⟨rfl, hb⟩
  · have hbI : (s.size : Int) ≤ 300 := by omega
    clear hbig
    have hG := msg_get s hs
    have hR := ref35_get s hs
    have hl := getM_length s
    have hq := eql_msg (getM s).1 (getM s).1 hl hl
    rw [decide_eq_true rfl] at hq
    obtain ⟨x0, x1, x2, x3, x4, x5, x6, x7, x8, x9, x10, x11, hx⟩ := twelve_of hl
    rw [hx] at hG hR hq
    generalize (getM s).2 = E at hG hR
    clear hl hx hs
    have a1 : cellsI [x0, x1, x2, x3, x4, x5, x6, x7, x8, x9, x10, x11] = #[.int .i64 x0, .int .i64 x1, .int .i64 x2, .int .i64 x3, .int .i64 x4, .int .i64 x5, .int .i64 x6, .int .i64 x7, .int .i64 x8, .int .i64 x9, .int .i64 x10, .int .i64 x11] := rfl
    rw [a1] at hG hR hq
    clear a1
    have HG := Lib.hid hG
    have HR := Lib.hid hR
    have HQ := Lib.hid hq
    clear hG hR hq
    go_enter Tryz.func4, Tryz.ntmps4
    go_wp2_with fail
    refine (HG.out _ HL0.out).mono ?_
    rintro e w1 ⟨rfl, hb1⟩
    have HL1 := Lib.hid hb1
    clear hb1
    go_wp2_with fail
    refine (HR.out _).mono ?_
    rintro e w2 ⟨rfl, hb2⟩
    have X2 : Hid (Blk w2 w1.heap.size #[.int .i64 x0, .int .i64 x1, .int .i64 x2, .int .i64 x3, .int .i64 x4, .int .i64 x5, .int .i64 x6, .int .i64 x7, .int .i64 x8, .int .i64 x9, .int .i64 x10, .int .i64 x11] 25) := Lib.hid ((Blk.new w1 _ _).below hb2 (by simp))
    have HL2 := Lib.hid ((HL1.out.alloc HL1.out.size _).trans (hb2.mono (by have := HL1.out.size; simp; omega)))
    clear hb2 HL1
    have hq := HQ.out
    have hlt := X2.out.lt
    go_upto_region 5 with fail
    go_wp2_with (first
      | (with_reducible refine ev_load rfl 25 (.tmp 3) rfl (w1.heap.size) rfl 25 #[.int .i64 x0, .int .i64 x1, .int .i64 x2, .int .i64 x3, .int .i64 x4, .int .i64 x5, .int .i64 x6, .int .i64 x7, .int .i64 x8, .int .i64 x9, .int .i64 x10, .int .i64 x11] _ (X2.out.alloc _) hu rfl (by kernel_rfl) ?_)
      | (with_reducible refine ev_load rfl 25 (.tmp 5) rfl (w2.heap.size) rfl 25 #[.int .i64 x0, .int .i64 x1, .int .i64 x2, .int .i64 x3, .int .i64 x4, .int .i64 x5, .int .i64 x6, .int .i64 x7, .int .i64 x8, .int .i64 x9, .int .i64 x10, .int .i64 x11] _ (Blk.new w2 _ _) hu rfl (by kernel_rfl) ?_))
    refine (awake35 _ (HL0.out.below (HL2.out.alloc HL2.out.size _))).mono ?_
    rintro e w3 ⟨rfl, hb3⟩
    have HL3 := Lib.hid ((HL2.out.alloc HL2.out.size _).trans (hb3.mono (by have := HL2.out.size; simp; omega)))
    clear hb3
    go_wp2_with fail
    go_ret
    exact ⟨rfl, HL3.out⟩
end Go.Proofs.YtcibeiehdjekiaaGreatDoor
