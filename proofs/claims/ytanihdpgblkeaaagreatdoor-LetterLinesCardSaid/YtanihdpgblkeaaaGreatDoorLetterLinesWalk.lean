/-
  The walk of the statement LetterLines.
-/
import Derived.Test.YtanihdpgblkeaaaGreatDoorAwake36
import Derived.Test.YtanihdpgblkeaaaGreatDoorLetterRefParse
import Derived.Test.YtanihdpgblkeaaaGreatDoorLetterLaid
namespace Go.Proofs.YtanihdpgblkeaaaGreatDoor
open Go.RowKit
set_option linter.unusedVariables false
set_option linter.unusedSimpArgs false

set_option maxRecDepth 100000 in
set_option maxHeartbeats 6400000 in
theorem walk_ll (l : List Int) (hl : l.length = 12) (hwf : wfI l) (s : ByteArray) (kd : Int) (w : World) (hs : s.size ≤ maxLen) (hL : LaidL w) :
    Calls Tryz.prog 3 #[.agg (cellsI l), .string s, .int .i64 kd] w fun e w' => e = .returned (.bool true) ∧ Below w.heap.size w w' := by
  have hs63 : s.size ≤ 9223372036854775807 := by unfold maxLen at hs; omega
  have AW := Lib.hid awake36
  have LN1 := fun wx h => letter_line l hl hwf wx h
  have LN2 := fun wx => ref36_line l hl hwf wx
  obtain ⟨a0, a1, a2, a3, a4, a5, a6, a7, a8, a9, a10, a11, hl8⟩ := twelve_of hl
  have hcell : cellsI l = #[.int .i64 a0, .int .i64 a1, .int .i64 a2, .int .i64 a3, .int .i64 a4, .int .i64 a5, .int .i64 a6, .int .i64 a7, .int .i64 a8, .int .i64 a9, .int .i64 a10, .int .i64 a11] := by rw [hl8]; rfl
  rw [hcell] at LN1 LN2 ⊢
  generalize lineM l = LR at LN1 LN2
  obtain ⟨R1, R2⟩ := LR
  simp only at LN1 LN2
  obtain ⟨RS, hRS⟩ : ∃ R, strL R1 = R := ⟨_, rfl⟩
  rw [hRS] at LN1 LN2
  have LN1 := Lib.hid LN1
  have LN2 := Lib.hid LN2
  have hb1 : Below w.heap.size w (w.alloc (.cells #[.int .i64 a0, .int .i64 a1, .int .i64 a2, .int .i64 a3, .int .i64 a4, .int .i64 a5, .int .i64 a6, .int .i64 a7, .int .i64 a8, .int .i64 a9, .int .i64 a10, .int .i64 a11] 25)) := (Below.refl _ _).alloc (Nat.le_refl _) _
  have B1 := Lib.hid hb1
  have L1 := Lib.hid (hL.below hb1)
  have V1 := Lib.hid (Blk.new w #[.int .i64 a0, .int .i64 a1, .int .i64 a2, .int .i64 a3, .int .i64 a4, .int .i64 a5, .int .i64 a6, .int .i64 a7, .int .i64 a8, .int .i64 a9, .int .i64 a10, .int .i64 a11] 25)
  obtain ⟨w1, hw1⟩ : ∃ w1, w.alloc (.cells #[.int .i64 a0, .int .i64 a1, .int .i64 a2, .int .i64 a3, .int .i64 a4, .int .i64 a5, .int .i64 a6, .int .i64 a7, .int .i64 a8, .int .i64 a9, .int .i64 a10, .int .i64 a11] 25) = w1 := ⟨_, rfl⟩
  rw [hw1] at B1 L1 V1
  have HW1 := Lib.hid hw1
  obtain ⟨b1, hb⟩ : ∃ b, w.heap.size = b := ⟨_, rfl⟩
  rw [hb] at V1
  have HB0 := Lib.hid hb
  clear hl hwf hl8 hcell hRS hb1 hw1 hb hL hs
  go_enter Tryz.func3, Tryz.ntmps3
  go_upto_region 1 with fail
  rw [HW1.out]
  try rw [HB0.out]
  clear HW1
  by_cases h1 : 300 < s.size
  · have h1I : (300 : Int) < (s.size : Int) := by omega
    go_wp2_with fail
    refine (AW.out _ L1.out).mono ?_
    rintro e w2 ⟨rfl, hb2⟩
    have B2 := Lib.hid (B1.out.trans (hb2.mono B1.out.size))
    clear hb2
    go_wp2_with fail
    go_ret
    exact ⟨rfl, B2.out⟩
  have h1I : (s.size : Int) ≤ 300 := by omega
  have P1 := fun wx h => letter_parse s (by omega) wx h
  have P2 := fun wx => ref36_parse s (by omega) wx
  have hpl := parseM_length (wordsL s.data.toList)
  generalize parseM (wordsL s.data.toList) = PR at P1 P2 hpl
  obtain ⟨PV, PE⟩ := PR
  simp only at P1 P2 hpl
  obtain ⟨d0, d1, d2, d3, d4, d5, d6, d7, d8, d9, d10, d11, hd8⟩ := twelve_of hpl
  have hcd : cellsI PV = #[.int .i64 d0, .int .i64 d1, .int .i64 d2, .int .i64 d3, .int .i64 d4, .int .i64 d5, .int .i64 d6, .int .i64 d7, .int .i64 d8, .int .i64 d9, .int .i64 d10, .int .i64 d11] := by rw [hd8]; rfl
  have hqe := eql_msg PV PV hpl hpl
  rw [hcd] at P1 P2 hqe
  have hq2 : ∀ w, (binOp .eql 25 (.agg #[.int .i64 d0, .int .i64 d1, .int .i64 d2, .int .i64 d3, .int .i64 d4, .int .i64 d5, .int .i64 d6, .int .i64 d7, .int .i64 d8, .int .i64 d9, .int .i64 d10, .int .i64 d11]) (.agg #[.int .i64 d0, .int .i64 d1, .int .i64 d2, .int .i64 d3, .int .i64 d4, .int .i64 d5, .int .i64 d6, .int .i64 d7, .int .i64 d8, .int .i64 d9, .int .i64 d10, .int .i64 d11])).run Tryz.prog w = .ok (.bool true) w := fun w => by rw [hqe w]; simp
  have P1 := Lib.hid P1
  have P2 := Lib.hid P2
  have W1 := fun wx h => letter_word kd wx h
  have W2 := fun wx => ref36_word kd wx
  generalize wordBM kd = WB at W1 W2
  obtain ⟨WS, hWS⟩ : ∃ S, strL (kindWM kd) = S := ⟨_, rfl⟩
  rw [hWS] at W1 W2
  have W1 := Lib.hid W1
  have W2 := Lib.hid W2
  have q1 : (RS.toList == RS.toList) = true := by simp
  have q2 : (WS.toList == WS.toList) = true := by simp
  clear hpl hd8 hcd hqe hWS h1
  have c0 := V1.out.cell (i := 0) rfl
  have c1 := V1.out.cell (i := 1) rfl
  have c2 := V1.out.cell (i := 2) rfl
  have c3 := V1.out.cell (i := 3) rfl
  have c4 := V1.out.cell (i := 4) rfl
  have c5 := V1.out.cell (i := 5) rfl
  have c6 := V1.out.cell (i := 6) rfl
  have c7 := V1.out.cell (i := 7) rfl
  have c8 := V1.out.cell (i := 8) rfl
  have c9 := V1.out.cell (i := 9) rfl
  have c10 := V1.out.cell (i := 10) rfl
  have c11 := V1.out.cell (i := 11) rfl
  go_wp2_with fail
  refine (LN1.out _ L1.out).mono ?_
  rintro e w2 ⟨rfl, hb2⟩
  have V2 := Lib.hid (V1.out.below hb2 V1.out.lt)
  have B2 := Lib.hid (B1.out.trans (hb2.mono B1.out.size))
  have L2 := Lib.hid (L1.out.below hb2)
  clear hb2 V1 B1 L1 LN1 c0 c1 c2 c3 c4 c5 c6 c7 c8 c9 c10 c11
  have c0 := V2.out.cell (i := 0) rfl
  have c1 := V2.out.cell (i := 1) rfl
  have c2 := V2.out.cell (i := 2) rfl
  have c3 := V2.out.cell (i := 3) rfl
  have c4 := V2.out.cell (i := 4) rfl
  have c5 := V2.out.cell (i := 5) rfl
  have c6 := V2.out.cell (i := 6) rfl
  have c7 := V2.out.cell (i := 7) rfl
  have c8 := V2.out.cell (i := 8) rfl
  have c9 := V2.out.cell (i := 9) rfl
  have c10 := V2.out.cell (i := 10) rfl
  have c11 := V2.out.cell (i := 11) rfl
  go_wp2_with fail
  refine (LN2.out _).mono ?_
  rintro e w3 ⟨rfl, hb3⟩
  have B3 := Lib.hid (B2.out.trans (hb3.mono B2.out.size))
  have L3 := Lib.hid (L2.out.below hb3)
  clear hb3 V2 B2 L2 LN2 c0 c1 c2 c3 c4 c5 c6 c7 c8 c9 c10 c11
  go_wp2_with fail
  refine (P1.out _ L3.out).mono ?_
  rintro e w4 ⟨rfl, hb4⟩
  have B4 := Lib.hid ((B3.out.trans (hb4.mono B3.out.size)).alloc (by have := B3.out.size; have := hb4.size; omega) (.cells #[.int .i64 d0, .int .i64 d1, .int .i64 d2, .int .i64 d3, .int .i64 d4, .int .i64 d5, .int .i64 d6, .int .i64 d7, .int .i64 d8, .int .i64 d9, .int .i64 d10, .int .i64 d11] 25))
  have L4 := Lib.hid ((L3.out.below hb4).below ((Below.refl _ _).alloc (Nat.le_refl _) (.cells #[.int .i64 d0, .int .i64 d1, .int .i64 d2, .int .i64 d3, .int .i64 d4, .int .i64 d5, .int .i64 d6, .int .i64 d7, .int .i64 d8, .int .i64 d9, .int .i64 d10, .int .i64 d11] 25)))
  have V4 := Lib.hid (Blk.new w4 #[.int .i64 d0, .int .i64 d1, .int .i64 d2, .int .i64 d3, .int .i64 d4, .int .i64 d5, .int .i64 d6, .int .i64 d7, .int .i64 d8, .int .i64 d9, .int .i64 d10, .int .i64 d11] 25)
  clear hb4 B3 L3 P1
  go_upto_region 6 with fail
  obtain ⟨w5, hw5⟩ : ∃ w5, w4.alloc (.cells #[.int .i64 d0, .int .i64 d1, .int .i64 d2, .int .i64 d3, .int .i64 d4, .int .i64 d5, .int .i64 d6, .int .i64 d7, .int .i64 d8, .int .i64 d9, .int .i64 d10, .int .i64 d11] 25) = w5 := ⟨_, rfl⟩
  rw [hw5] at B4 L4 V4 ⊢
  obtain ⟨b4, hb⟩ : ∃ b, w4.heap.size = b := ⟨_, rfl⟩
  rw [hb] at V4 ⊢
  clear hw5 hb
  go_wp2_with fail
  refine (P2.out _).mono ?_
  rintro e w6 ⟨rfl, hb6⟩
  have V6 := Lib.hid ((V4.out.below hb6 V4.out.lt).alloc (.cells #[.int .i64 d0, .int .i64 d1, .int .i64 d2, .int .i64 d3, .int .i64 d4, .int .i64 d5, .int .i64 d6, .int .i64 d7, .int .i64 d8, .int .i64 d9, .int .i64 d10, .int .i64 d11] 25))
  have B6 := Lib.hid ((B4.out.trans (hb6.mono B4.out.size)).alloc (by have := B4.out.size; have := hb6.size; omega) (.cells #[.int .i64 d0, .int .i64 d1, .int .i64 d2, .int .i64 d3, .int .i64 d4, .int .i64 d5, .int .i64 d6, .int .i64 d7, .int .i64 d8, .int .i64 d9, .int .i64 d10, .int .i64 d11] 25))
  have L6 := Lib.hid ((L4.out.below hb6).below ((Below.refl _ _).alloc (Nat.le_refl _) (.cells #[.int .i64 d0, .int .i64 d1, .int .i64 d2, .int .i64 d3, .int .i64 d4, .int .i64 d5, .int .i64 d6, .int .i64 d7, .int .i64 d8, .int .i64 d9, .int .i64 d10, .int .i64 d11] 25)))
  have U6 := Lib.hid (Blk.new w6 #[.int .i64 d0, .int .i64 d1, .int .i64 d2, .int .i64 d3, .int .i64 d4, .int .i64 d5, .int .i64 d6, .int .i64 d7, .int .i64 d8, .int .i64 d9, .int .i64 d10, .int .i64 d11] 25)
  clear hb6 B4 L4 V4 P2
  go_upto_region 7 with fail
  obtain ⟨w7, hw7⟩ : ∃ w7, w6.alloc (.cells #[.int .i64 d0, .int .i64 d1, .int .i64 d2, .int .i64 d3, .int .i64 d4, .int .i64 d5, .int .i64 d6, .int .i64 d7, .int .i64 d8, .int .i64 d9, .int .i64 d10, .int .i64 d11] 25) = w7 := ⟨_, rfl⟩
  rw [hw7] at V6 U6 B6 L6 ⊢
  obtain ⟨b6, hb⟩ : ∃ b, w6.heap.size = b := ⟨_, rfl⟩
  rw [hb] at U6 ⊢
  clear hw7 hb
  go_wp2_with fail
  refine (W1.out _ L6.out).mono ?_
  rintro e w8 ⟨rfl, rfl⟩
  go_wp2_with fail
  refine (W2.out _).mono ?_
  rintro e w9 ⟨rfl, hb9⟩
  have V9 := Lib.hid (V6.out.below hb9 V6.out.lt)
  have U9 := Lib.hid (U6.out.below hb9 U6.out.lt)
  have B9 := Lib.hid (B6.out.trans (hb9.mono B6.out.size))
  have L9 := Lib.hid (L6.out.below hb9)
  clear hb9 V6 U6 B6 L6 W1 W2
  have c0 := V9.out.cell (i := 0) rfl
  have c1 := V9.out.cell (i := 1) rfl
  have c2 := V9.out.cell (i := 2) rfl
  have c3 := V9.out.cell (i := 3) rfl
  have c4 := V9.out.cell (i := 4) rfl
  have c5 := V9.out.cell (i := 5) rfl
  have c6 := V9.out.cell (i := 6) rfl
  have c7 := V9.out.cell (i := 7) rfl
  have c8 := V9.out.cell (i := 8) rfl
  have c9 := V9.out.cell (i := 9) rfl
  have c10 := V9.out.cell (i := 10) rfl
  have c11 := V9.out.cell (i := 11) rfl
  have g0 := U9.out.cell (i := 0) rfl
  have g1 := U9.out.cell (i := 1) rfl
  have g2 := U9.out.cell (i := 2) rfl
  have g3 := U9.out.cell (i := 3) rfl
  have g4 := U9.out.cell (i := 4) rfl
  have g5 := U9.out.cell (i := 5) rfl
  have g6 := U9.out.cell (i := 6) rfl
  have g7 := U9.out.cell (i := 7) rfl
  have g8 := U9.out.cell (i := 8) rfl
  have g9 := U9.out.cell (i := 9) rfl
  have g10 := U9.out.cell (i := 10) rfl
  have g11 := U9.out.cell (i := 11) rfl
  go_wp2_with fail
  refine (AW.out _ L9.out).mono ?_
  rintro e w10 ⟨rfl, hb10⟩
  have B10 := Lib.hid (B9.out.trans (hb10.mono B9.out.size))
  clear hb10
  go_wp2_with fail
  go_ret
  exact ⟨rfl, B10.out⟩
theorem walk_LetterLines (x0 x1 x2 x3 x4 x5 x6 x7 x8 x9 x10 x11 : Int) (s : ByteArray) (kd : Int) (w : World) (h0 : (Lit.int .i64 x0).wf = true) (h1 : (Lit.int .i64 x1).wf = true) (h2 : (Lit.int .i64 x2).wf = true) (h3 : (Lit.int .i64 x3).wf = true) (h4 : (Lit.int .i64 x4).wf = true) (h5 : (Lit.int .i64 x5).wf = true) (h6 : (Lit.int .i64 x6).wf = true) (h7 : (Lit.int .i64 x7).wf = true) (h8 : (Lit.int .i64 x8).wf = true) (h9 : (Lit.int .i64 x9).wf = true) (h10 : (Lit.int .i64 x10).wf = true) (h11 : (Lit.int .i64 x11).wf = true) (hs : s.size ≤ maxLen) (hk : (Lit.int .i64 kd).wf = true) (hl : laidMetH Tryz.prog Rows.letterLinesRow.laid w) :
    Calls Tryz.prog 3 #[.agg #[.int .i64 x0, .int .i64 x1, .int .i64 x2, .int .i64 x3, .int .i64 x4, .int .i64 x5, .int .i64 x6, .int .i64 x7, .int .i64 x8, .int .i64 x9, .int .i64 x10, .int .i64 x11], .string s, .int .i64 kd] w fun e w' => e = .returned (.bool true) ∧ Below w.heap.size w w' :=
  walk_ll [x0, x1, x2, x3, x4, x5, x6, x7, x8, x9, x10, x11] rfl (by intro n hn; simp at hn; rcases hn with rfl | rfl | rfl | rfl | rfl | rfl | rfl | rfl | rfl | rfl | rfl | rfl <;> assumption) s kd w hs (laid_letter_Lines hl)
end Go.Proofs.YtanihdpgblkeaaaGreatDoor
