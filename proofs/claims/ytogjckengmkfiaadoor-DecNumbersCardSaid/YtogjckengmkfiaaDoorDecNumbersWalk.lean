/-
  The walk of the statement DecNumbers.
-/
import Derived.Test.YtogjckengmkfiaaDoorAwake05
import Derived.Test.YtogjckengmkfiaaDoorDecLaid
namespace Go.Proofs.YtogjckengmkfiaaDoor
open Go.RowKit
set_option linter.unusedVariables false
set_option linter.unusedSimpArgs false

set_option maxRecDepth 100000 in
set_option maxHeartbeats 3200000 in
theorem walk_dn (n : Int) (s : ByteArray) (w : World) (hn : inI n) (hs : s.size ≤ maxLen) (hl : Laid w) :
    Calls Tryd.prog 8 #[.int .i64 n, .string s] w fun e w' => e = .returned (.bool true) ∧ Below w.heap.size w w' := by
  have hs63 : s.size ≤ 9223372036854775807 := by unfold maxLen at hs; omega
  have AW := Lib.hid awake05
  by_cases h1 : 100 < s.size
  · have h1I : (100 : Int) < (s.size : Int) := by omega
    have L0 := Lib.hid hl
    clear h1 hl
    go_enter Tryd.func8, Tryd.ntmps8
    go_wp2_with fail
    refine (AW.out _ L0.out).mono ?_
    rintro e w1 ⟨rfl, hb1⟩
    go_wp2_with fail
    go_ret
    exact ⟨rfl, hb1⟩
  have h1I : (s.size : Int) ≤ 100 := by omega
  have P := Lib.hid (fun w h => dec_parse s (by omega) w h)
  have Q := Lib.hid (fun w => ref05_parse s (by omega) w)
  have T := Lib.hid (fun w h => dec_text n hn w h)
  have U := Lib.hid (fun w => ref05_textI n hn w)
  generalize decR s.data.toList = R at P Q
  obtain ⟨R1, R2⟩ := R
  generalize strL (Lib.itoa n) = TX at T U
  have q1 : (TX.toList == TX.toList) = true := by simp
  have L0 := Lib.hid hl
  clear h1 hl hn
  go_enter Tryd.func8, Tryd.ntmps8
  go_wp2_with fail
  refine (P.out _ L0.out).mono ?_
  rintro e w1 ⟨rfl, hb1⟩
  have L1 := Lib.hid (L0.out.below hb1)
  have B1 := Lib.hid hb1
  clear hb1
  go_wp2_with fail
  refine (Q.out _).mono ?_
  rintro e w2 ⟨rfl, rfl⟩
  go_wp2_with fail
  refine (T.out _ L1.out).mono ?_
  rintro e w3 ⟨rfl, hb3⟩
  have L3 := Lib.hid (L1.out.below hb3)
  have B3 := Lib.hid (B1.out.trans (hb3.mono B1.out.size))
  clear hb3
  go_wp2_with fail
  refine (U.out _).mono ?_
  rintro e w4 ⟨rfl, rfl⟩
  go_wp2_with fail
  refine (AW.out _ L3.out).mono ?_
  rintro e w5 ⟨rfl, hb5⟩
  have B5 := Lib.hid (B3.out.trans (hb5.mono B3.out.size))
  clear hb5
  go_wp2_with fail
  go_ret
  exact ⟨rfl, B5.out⟩
theorem inI_of {n : Int} (h : (Lit.int .i64 n).wf = true) : inI n := by
  have := bounds_i64 h
  unfold inI; omega
theorem walk_DecNumbers (n : Int) (s : ByteArray) (w : World) (hn : (Lit.int .i64 n).wf = true) (hs : s.size ≤ maxLen) (hl : laidMetH Tryd.prog Rows.decNumbersRow.laid w) :
    Calls Tryd.prog 8 #[.int .i64 n, .string s] w fun e w' => e = .returned (.bool true) ∧ Below w.heap.size w w' :=
  walk_dn n s w (inI_of hn) hs (laid_of7 hl)
end Go.Proofs.YtogjckengmkfiaaDoor
