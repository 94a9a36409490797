/-
  What must come whatever the arguments are (the statements of reeve's layer 18): the walk.
-/
import Derived.Test.YtokghlmffkboiaaEventLaw
namespace Go.Proofs.Ytokghlmffkboiaa
open Go.RowKit
set_option linter.unusedVariables false
set_option linter.unusedSimpArgs false

theorem aw18_check : checkL [5, 0, 300, 0, 0, 0, 0, 0] = 0 := by decide
theorem aw18_wf : wfI [5, 0, 300, 0, 0, 0, 0, 0] := by
  intro x hx
  simp at hx
  rcases hx with rfl | rfl | rfl | rfl <;> decide
theorem aw18_bytes : putB [5, 0, 300, 0, 0, 0, 0, 0] = [5, 172, 2] := by
  have h : Oct.varB 300 = [172, 2] := by
    rw [Oct.varB_ge (by decide), Oct.varB_lt (by decide)]; rfl
  show Oct.fixB 5 1 ++ (varAny 300 ++ []) = _
  have e : varAny 300 = Oct.varB 300 := rfl
  rw [e, h]
  rfl
theorem aw18_put : putS [5, 0, 300, 0, 0, 0, 0, 0] = str [5, 172, 2] := by
  unfold putS
  rw [if_pos aw18_check, aw18_bytes]
theorem aw18_get : getL (str [5, 172, 2]) = ([5, 0, 300, 0, 0, 0, 0, 0], 0) := by
  have h := get_put [5, 0, 300, 0, 0, 0, 0, 0] rfl aw18_wf aw18_check []
  rw [aw18_bytes] at h
  exact h
theorem aw18_more : getL (str [5, 172, 2, 120]) = (bare 0, 2) := by
  have h := get_put [5, 0, 300, 0, 0, 0, 0, 0] rfl aw18_wf aw18_check [120]
  rw [aw18_bytes] at h
  exact h
set_option maxRecDepth 100000 in
set_option maxHeartbeats 1600000 in
theorem awake18 (w : World) : Calls Try.prog 13 #[] w fun e w' => e = .returned (.bool true) ∧ Below w.heap.size w w' := by
  have hu := Try.underlying25
  have hP := event_put [5, 0, 300, 0, 0, 0, 0, 0] rfl aw18_wf
  rw [aw18_put, aw18_check] at hP
  have hG := event_get (str [5, 172, 2]) (by decide)
  rw [aw18_get] at hG
  have hM := event_get (str [5, 172, 2, 120]) (by decide)
  rw [aw18_more] at hM
  have hC := event_check (bare 8) rfl
  rw [show checkL (bare 8) = 5 by decide] at hC
  have hU := event_pure [5, 0, 1, 2, 0, 0, 0, 0] rfl
  rw [show pureL [5, 0, 1, 2, 0, 0, 0, 0] = [5, 0, 1, 0, 0, 0, 0, 0] by decide] at hU
  have hq1 := eql_event [5, 0, 300, 0, 0, 0, 0, 0] [5, 0, 300, 0, 0, 0, 0, 0] rfl rfl
  rw [decide_eq_true (rfl : [5, 0, 300, 0, 0, 0, 0, (0 : Int)] = [5, 0, 300, 0, 0, 0, 0, 0])] at hq1
  have hq2 := eql_event [5, 0, 1, 0, 0, 0, 0, 0] [5, 0, 1, 0, 0, 0, 0, 0] rfl rfl
  rw [decide_eq_true (rfl : [5, 0, 1, 0, 0, 0, 0, (0 : Int)] = [5, 0, 1, 0, 0, 0, 0, 0])] at hq2
  have a1 : cellsI [5, 0, 300, 0, 0, 0, 0, 0] = #[.int .i64 5, .int .i64 0, .int .i64 300, .int .i64 0, .int .i64 0, .int .i64 0, .int .i64 0, .int .i64 0] := rfl
  have a2 : cellsI [5, 0, 1, 2, 0, 0, 0, 0] = #[.int .i64 5, .int .i64 0, .int .i64 1, .int .i64 2, .int .i64 0, .int .i64 0, .int .i64 0, .int .i64 0] := rfl
  have a3 : cellsI [5, 0, 1, 0, 0, 0, 0, 0] = #[.int .i64 5, .int .i64 0, .int .i64 1, .int .i64 0, .int .i64 0, .int .i64 0, .int .i64 0, .int .i64 0] := rfl
  have a4 : cellsI (bare 8) = #[.int .i64 8, .int .i64 0, .int .i64 0, .int .i64 0, .int .i64 0, .int .i64 0, .int .i64 0, .int .i64 0] := rfl
  have a5 : cellsI (bare 0) = #[.int .i64 0, .int .i64 0, .int .i64 0, .int .i64 0, .int .i64 0, .int .i64 0, .int .i64 0, .int .i64 0] := rfl
  have s1 : str [5, 172, 2] = ⟨#[5, 172, 2]⟩ := rfl
  have s2 : str [5, 172, 2, 120] = ⟨#[5, 172, 2, 120]⟩ := rfl
  simp only [a1, a2, a3, a4, a5, s1, s2] at hP hG hM hC hU hq1 hq2
  clear a1 a2 a3 a4 a5 s1 s2
  have HP := Lib.hid hP
  have HG := Lib.hid hG
  have HM := Lib.hid hM
  have HC := Lib.hid hC
  have HU := Lib.hid hU
  clear hP hG hM hC hU
  go_enter Try.func13, Try.ntmps13
  go_wp2_with fail
  refine (HP.out _).mono ?_
  rintro e w1 ⟨rfl, hb1⟩
  have X1 : Hid (Blk w1 w.heap.size #[.int .i64 5, .int .i64 0, .int .i64 300, .int .i64 0, .int .i64 0, .int .i64 0, .int .i64 0, .int .i64 0] 25) := Lib.hid ((Blk.new w _ _).below hb1 (by simp))
  have L1 : Hid (Below w.heap.size w w1) := Lib.hid (((Below.refl w.heap.size w).alloc (Nat.le_refl _) _).trans (hb1.mono (by simp)))
  clear hb1
  go_wp2_with fail
  refine (HG.out _).mono ?_
  rintro e w2 ⟨rfl, hb2⟩
  have X2 := Lib.hid (X1.out.below hb2 X1.out.lt)
  have L2 := Lib.hid (L1.out.trans (hb2.mono L1.out.size))
  clear hb2 X1 L1
  go_wp2_with fail
  refine (HM.out _).mono ?_
  rintro e w3 ⟨rfl, hb3⟩
  have X3 := Lib.hid ((X2.out.alloc (.cells #[.int .i64 5, .int .i64 0, .int .i64 300, .int .i64 0, .int .i64 0, .int .i64 0, .int .i64 0, .int .i64 0] 25)).below hb3 (by have := X2.out.lt; simp; omega))
  have Y3 : Hid (Blk w3 w2.heap.size #[.int .i64 5, .int .i64 0, .int .i64 300, .int .i64 0, .int .i64 0, .int .i64 0, .int .i64 0, .int .i64 0] 25) := Lib.hid ((Blk.new w2 _ _).below hb3 (by simp))
  have L3 := Lib.hid ((L2.out.alloc L2.out.size (.cells #[.int .i64 5, .int .i64 0, .int .i64 300, .int .i64 0, .int .i64 0, .int .i64 0, .int .i64 0, .int .i64 0] 25)).trans (hb3.mono (by have := L2.out.size; simp; omega)))
  have hx := X3.out.lt
  have hy := Y3.out.lt
  clear hb3 X2 L2
  have d0 := keepA (X3.out.cell (i := 0) rfl) (.cells #[.int .i64 0, .int .i64 0, .int .i64 0, .int .i64 0, .int .i64 0, .int .i64 0, .int .i64 0, .int .i64 0] 25)
  have e0 := keepA (Y3.out.cell (i := 0) rfl) (.cells #[.int .i64 0, .int .i64 0, .int .i64 0, .int .i64 0, .int .i64 0, .int .i64 0, .int .i64 0, .int .i64 0] 25)
  have d1 := keepA (X3.out.cell (i := 1) rfl) (.cells #[.int .i64 0, .int .i64 0, .int .i64 0, .int .i64 0, .int .i64 0, .int .i64 0, .int .i64 0, .int .i64 0] 25)
  have e1 := keepA (Y3.out.cell (i := 1) rfl) (.cells #[.int .i64 0, .int .i64 0, .int .i64 0, .int .i64 0, .int .i64 0, .int .i64 0, .int .i64 0, .int .i64 0] 25)
  have d2 := keepA (X3.out.cell (i := 2) rfl) (.cells #[.int .i64 0, .int .i64 0, .int .i64 0, .int .i64 0, .int .i64 0, .int .i64 0, .int .i64 0, .int .i64 0] 25)
  have e2 := keepA (Y3.out.cell (i := 2) rfl) (.cells #[.int .i64 0, .int .i64 0, .int .i64 0, .int .i64 0, .int .i64 0, .int .i64 0, .int .i64 0, .int .i64 0] 25)
  have d3 := keepA (X3.out.cell (i := 3) rfl) (.cells #[.int .i64 0, .int .i64 0, .int .i64 0, .int .i64 0, .int .i64 0, .int .i64 0, .int .i64 0, .int .i64 0] 25)
  have e3 := keepA (Y3.out.cell (i := 3) rfl) (.cells #[.int .i64 0, .int .i64 0, .int .i64 0, .int .i64 0, .int .i64 0, .int .i64 0, .int .i64 0, .int .i64 0] 25)
  have d4 := keepA (X3.out.cell (i := 4) rfl) (.cells #[.int .i64 0, .int .i64 0, .int .i64 0, .int .i64 0, .int .i64 0, .int .i64 0, .int .i64 0, .int .i64 0] 25)
  have e4 := keepA (Y3.out.cell (i := 4) rfl) (.cells #[.int .i64 0, .int .i64 0, .int .i64 0, .int .i64 0, .int .i64 0, .int .i64 0, .int .i64 0, .int .i64 0] 25)
  have d5 := keepA (X3.out.cell (i := 5) rfl) (.cells #[.int .i64 0, .int .i64 0, .int .i64 0, .int .i64 0, .int .i64 0, .int .i64 0, .int .i64 0, .int .i64 0] 25)
  have e5 := keepA (Y3.out.cell (i := 5) rfl) (.cells #[.int .i64 0, .int .i64 0, .int .i64 0, .int .i64 0, .int .i64 0, .int .i64 0, .int .i64 0, .int .i64 0] 25)
  have d6 := keepA (X3.out.cell (i := 6) rfl) (.cells #[.int .i64 0, .int .i64 0, .int .i64 0, .int .i64 0, .int .i64 0, .int .i64 0, .int .i64 0, .int .i64 0] 25)
  have e6 := keepA (Y3.out.cell (i := 6) rfl) (.cells #[.int .i64 0, .int .i64 0, .int .i64 0, .int .i64 0, .int .i64 0, .int .i64 0, .int .i64 0, .int .i64 0] 25)
  have d7 := keepA (X3.out.cell (i := 7) rfl) (.cells #[.int .i64 0, .int .i64 0, .int .i64 0, .int .i64 0, .int .i64 0, .int .i64 0, .int .i64 0, .int .i64 0] 25)
  have e7 := keepA (Y3.out.cell (i := 7) rfl) (.cells #[.int .i64 0, .int .i64 0, .int .i64 0, .int .i64 0, .int .i64 0, .int .i64 0, .int .i64 0, .int .i64 0] 25)
  go_wp2_with fail
  refine (HC.out _).mono ?_
  rintro e w4 ⟨rfl, hb4⟩
  have L4 := Lib.hid ((L3.out.alloc L3.out.size _).trans (hb4.mono (by have := L3.out.size; simp; omega)))
  clear hb4
  go_wp2_with fail
  refine (HU.out _).mono ?_
  rintro e w5 ⟨rfl, hb5⟩
  have L5 := Lib.hid (L4.out.trans (hb5.mono L4.out.size))
  clear hb5
  go_wp2_with fail
  go_ret
  exact ⟨rfl, L5.out⟩
end Go.Proofs.Ytokghlmffkboiaa
