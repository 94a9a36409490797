/-
  The walk of the statement WordsCuts.
-/
import Derived.Test.YtogjckengmkfiaaDoorAwake06
namespace Go.Proofs.YtogjckengmkfiaaDoor
open Go.RowKit
set_option linter.unusedVariables false
set_option linter.unusedSimpArgs false

set_option maxRecDepth 100000 in
set_option maxHeartbeats 3200000 in
theorem walk_wc (s : ByteArray) (c : UInt8) (w : World) (hs : s.size ≤ maxLen) :
    Calls Tryd.prog 3 #[.string s, .int .u8 c.toNat] w fun e w' => e = .returned (.bool true) ∧ Below w.heap.size w w' := by
  have hs63 : s.size ≤ 9223372036854775807 := by unfold maxLen at hs; omega
  have AW := Lib.hid awake06
  by_cases hbig : 400 < s.size
  · have hbI : (400 : Int) < (s.size : Int) := by omega
    clear hbig
    go_enter Tryd.func3, Tryd.ntmps3
    go_wp2_with fail
    refine (AW.out _).mono ?_
    rintro e w1 ⟨rfl, hb1⟩
    go_wp2_with fail
    go_ret
    exact ⟨rfl, hb1⟩
  have hbI : (s.size : Int) ≤ 400 := by omega
  have C1 := words_cut s c hs
  have C2 := ref06_cut s c hs
  obtain ⟨x1, x2, x3⟩ : Nonempty (ByteArray × ByteArray × Bool) ∧ True ∧ True := ⟨⟨cutR s c⟩, trivial, trivial⟩
  clear x1 x2 x3
  generalize (cutR s c).1 = R1 at C1 C2
  generalize (cutR s c).2.1 = R2 at C1 C2
  generalize (cutR s c).2.2 = R3 at C1 C2
  have L1 := words_lines s (by omega)
  have L2 := ref06_lines s (by omega)
  have W1 := words_words s (by omega)
  have W2 := ref06_words s (by omega)
  have zl : ((linesL s.data.toList).map strL).length ≤ 1000000 := by
    rw [List.length_map]
    have := refL_len s.data.toList [] false
    rw [show s.data.toList.length = s.size from (Lib.size_eq s).symm] at this
    unfold linesL; omega
  have zw : ((wordsL s.data.toList).map strL).length ≤ 1000000 := by
    rw [List.length_map]
    have := refW_len s.data.toList []
    rw [show s.data.toList.length = s.size from (Lib.size_eq s).symm] at this
    unfold wordsL; omega
  generalize (linesL s.data.toList).map strL = LL at L1 L2 zl
  generalize (wordsL s.data.toList).map strL = WW at W1 W2 zw
  obtain ⟨nl, hnl⟩ : ∃ n, LL.length = n := ⟨_, rfl⟩
  obtain ⟨nw, hnw⟩ : ∃ n, WW.length = n := ⟨_, rfl⟩
  have HNL := Lib.hid hnl
  have HNW := Lib.hid hnw
  have C1 := Lib.hid C1
  have C2 := Lib.hid C2
  have L1 := Lib.hid L1
  have L2 := Lib.hid L2
  have W1 := Lib.hid W1
  have W2 := Lib.hid W2
  have ZL := Lib.hid zl
  have ZW := Lib.hid zw
  have q1 : (R1.toList == R1.toList) = true := by simp
  have q2 : (R2.toList == R2.toList) = true := by simp
  have q3 : (R3 == R3) = true := by simp
  clear zl zw hnl hnw hbig hs
  go_enter Tryd.func3, Tryd.ntmps3
  go_wp2_with fail
  refine (C1.out _).mono ?_
  rintro e w1 ⟨rfl, m1, hw1⟩
  have B1 : Hid (Below w.heap.size w w1) := Lib.hid (by rw [hw1]; exact below_drewN _ _)
  clear hw1 C1
  go_wp2_with fail
  refine (C2.out _).mono ?_
  rintro e w2 ⟨rfl, m2, hw2⟩
  have B2 : Hid (Below w.heap.size w w2) := Lib.hid (by rw [hw2]; exact B1.out.trans ((below_drewN w1 m2).mono B1.out.size))
  clear hw2 B1 C2
  go_wp2_with fail
  refine (L1.out _).mono ?_
  rintro e w3 ⟨v3, rfl, hr3, hb3⟩
  have R3' := Lib.hid hr3
  have B3 := Lib.hid (B2.out.trans (hb3.mono B2.out.size))
  obtain ⟨p3, c3, hv3⟩ := hr3.len
  rw [HNL.out] at hv3
  subst hv3
  clear hr3 hb3 B2 L1
  go_wp2_with fail
  refine (L2.out _).mono ?_
  rintro e w4 ⟨v4, rfl, hr4, hb4⟩
  have R3 := Lib.hid (R3'.out.below hb4 (Nat.le_refl _))
  have R4 := Lib.hid hr4.row
  have B4 := Lib.hid (B3.out.trans (hb4.mono B3.out.size))
  obtain ⟨p4, c4, hv4⟩ := hr4.row.len
  rw [HNL.out] at hv4
  subst hv4
  clear hr4 hb4 B3 L2 R3'
  go_wp2_with fail
  refine (ref04_same _ _ LL ZL.out _ R3.out R4.out).mono ?_
  rintro e w5 ⟨rfl, hb5⟩
  have B5 := Lib.hid (B4.out.trans (hb5.mono B4.out.size))
  clear hb5 B4 R3 R4
  go_wp2_with fail
  refine (W1.out _).mono ?_
  rintro e w6 ⟨v6, rfl, hr6, hb6⟩
  have R6' := Lib.hid hr6.row
  have B6 := Lib.hid (B5.out.trans (hb6.mono B5.out.size))
  obtain ⟨p6, c6, hv6⟩ := hr6.row.len
  rw [HNW.out] at hv6
  subst hv6
  clear hr6 hb6 B5 W1
  go_wp2_with fail
  refine (W2.out _).mono ?_
  rintro e w7 ⟨v7, rfl, hr7, hb7⟩
  have R6 := Lib.hid (R6'.out.below hb7 (Nat.le_refl _))
  have R7 := Lib.hid hr7.row
  have B7 := Lib.hid (B6.out.trans (hb7.mono B6.out.size))
  obtain ⟨p7, c7, hv7⟩ := hr7.row.len
  rw [HNW.out] at hv7
  subst hv7
  clear hr7 hb7 B6 W2 R6'
  go_wp2_with fail
  refine (ref04_same _ _ WW ZW.out _ R6.out R7.out).mono ?_
  rintro e w8 ⟨rfl, hb8⟩
  have B8 := Lib.hid (B7.out.trans (hb8.mono B7.out.size))
  clear hb8 B7 R6 R7
  go_wp2_with fail
  refine (AW.out _).mono ?_
  rintro e w9 ⟨rfl, hb9⟩
  have B9 := Lib.hid (B8.out.trans (hb9.mono B8.out.size))
  clear hb9
  go_wp2_with fail
  go_ret
  exact ⟨rfl, B9.out⟩
theorem u8_of {x : Int} (h : (Lit.int .u8 x).wf = true) : ∃ c : UInt8, x = (c.toNat : Int) := by
  have hb := bounds_u8 h
  refine ⟨UInt8.ofNat x.toNat, ?_⟩
  rw [UInt8.toNat_ofNat']
  omega
theorem walk_WordsCuts (s : ByteArray) (x : Int) (w : World) (hs : s.size ≤ maxLen) (hx : (Lit.int .u8 x).wf = true) :
    Calls Tryd.prog 3 #[.string s, .int .u8 x] w fun e w' => e = .returned (.bool true) ∧ Below w.heap.size w w' := by
  obtain ⟨c, rfl⟩ := u8_of hx
  exact walk_wc s c w hs
end Go.Proofs.YtogjckengmkfiaaDoor
