/-
  The walk of the statement RowLines.
-/
import Derived.Test.YtogjckengmkfiaaDoorAwake07
namespace Go.Proofs.YtogjckengmkfiaaDoor
open Go.RowKit
set_option linter.unusedVariables false
set_option linter.unusedSimpArgs false

set_option maxRecDepth 100000 in
set_option maxHeartbeats 6400000 in
theorem walk_rl (word line : ByteArray) (p : Option Addr) (n cap : Nat) (L : List (List UInt8)) (q : Option Addr) (m cp : Nat) (ns : List Int) (w : World) (hv : RowS w (.slice p n cap) (L.map strL)) (hn : L.length = n) (hnm : n ≤ maxLen) (hx : ∀ x ∈ L, x.length ≤ maxLen)
    (hi : RowN w (.slice q m cp) ns) (hm : ns.length = m) (hmm : m ≤ maxLen) (hin : ∀ n ∈ ns, inI n) (hs1 : word.size ≤ maxLen) (hs2 : line.size ≤ maxLen) (hL : Laid w) :
    Calls Tryd.prog 6 #[.agg #[.string word, .string line], .slice p n cap, .slice q m cp] w fun e w' => e = .returned (.bool true) ∧ Below w.heap.size w w' := by
  have hs63 : word.size ≤ 9223372036854775807 := by unfold maxLen at hs1; omega
  have hs64 : line.size ≤ 9223372036854775807 := by unfold maxLen at hs2; omega
  have hm63 : m ≤ 9223372036854775807 := by unfold maxLen at hmm; omega
  have AW := Lib.hid awake07
  have FW := Lib.hid (fun (wx : World) (h : RowS wx (.slice p n cap) (L.map strL)) => row_few _ L wx h (by omega) hx)
  have K := Blk.new w #[.string word, .string line] 36
  have hb0 : Below w.heap.size w (w.alloc (.cells #[.string word, .string line] 36)) := (Below.refl _ _).alloc (Nat.le_refl _) _
  obtain ⟨W, hW⟩ : ∃ W, w.alloc (.cells #[.string word, .string line] 36) = W := ⟨_, rfl⟩
  rw [hW] at K hb0
  have HV := Lib.hid (hv.below hb0 (Nat.le_refl _))
  have HI := Lib.hid (hi.below hb0 (Nat.le_refl _))
  have LL := Lib.hid (hL.below hb0)
  have B0 := Lib.hid hb0
  have HN := Lib.hid hn
  have HM := Lib.hid hm
  have HIN := Lib.hid hin
  have k0 := K.cell (i := 0) rfl
  have k1 := K.cell (i := 1) rfl
  have HW := Lib.hid hW
  clear hv hi hL hb0 hn hm hin hx hW K hs1 hs2 hnm hmm
  go_enter Tryd.func6, Tryd.ntmps6
  go_upto_region 1 with fail
  rw [HW.out]
  clear HW
  go_quiet (fail)
  have B1 := Lib.hid (B0.out.trans ((below_drewN W nq).mono B0.out.size))
  have HV1 := Lib.hid (HV.out.below (below_drewN W nq) (Nat.le_refl _))
  have HI1 := Lib.hid (HI.out.below (below_drewN W nq) (Nat.le_refl _))
  have L1 := Lib.hid (LL.out.below (below_drewN W nq))
  obtain ⟨W1, hW1⟩ : ∃ W1, W.drewN nq = W1 := ⟨_, rfl⟩
  rw [hW1] at B1 HV1 HI1 L1 ⊢
  clear hW1 k0 k1 HV HI LL B0
  by_cases h1 : 60 < word.size
  · have h1I : (60 : Int) < (word.size : Int) := by omega
    go_wp2_with fail
    refine (AW.out _ L1.out).mono ?_
    rintro e w2 ⟨rfl, hb2⟩
    have B2 := Lib.hid (B1.out.trans (hb2.mono B1.out.size))
    go_wp2_with fail
    go_ret
    exact ⟨rfl, B2.out⟩
  have h1I : (word.size : Int) ≤ 60 := by omega
  by_cases h2 : 400 < line.size
  · have h2I : (400 : Int) < (line.size : Int) := by omega
    go_wp2_with fail
    refine (AW.out _ L1.out).mono ?_
    rintro e w2 ⟨rfl, hb2⟩
    have B2 := Lib.hid (B1.out.trans (hb2.mono B1.out.size))
    go_wp2_with fail
    go_ret
    exact ⟨rfl, B2.out⟩
  have h2I : (line.size : Int) ≤ 400 := by omega
  have hf := fewB_iff L
  cases hfb : fewB L with
  | false =>
    rw [hfb] at FW
    go_wp2_with fail
    refine (FW.out _ HV1.out).mono ?_
    rintro e w2 ⟨rfl, rfl⟩
    go_wp2_with fail
    refine (AW.out _ L1.out).mono ?_
    rintro e w2 ⟨rfl, hb2⟩
    have B2 := Lib.hid (B1.out.trans (hb2.mono B1.out.size))
    go_wp2_with fail
    go_ret
    exact ⟨rfl, B2.out⟩
  | true =>
  obtain ⟨f1, f2⟩ := hf.1 hfb
  rw [hfb] at FW
  clear hf hfb
  by_cases h3 : 20 < m
  · have h3I : (20 : Int) < (m : Int) := by omega
    go_wp2_with fail
    refine (FW.out _ HV1.out).mono ?_
    rintro e w2 ⟨rfl, rfl⟩
    go_wp2_with fail
    refine (AW.out _ L1.out).mono ?_
    rintro e w2 ⟨rfl, hb2⟩
    have B2 := Lib.hid (B1.out.trans (hb2.mono B1.out.size))
    go_wp2_with fail
    go_ret
    exact ⟨rfl, B2.out⟩
  have h3I : (m : Int) ≤ 20 := by omega
  have hmN := HM.out
  have hwl : word.data.toList.length ≤ 60 := by have := (Lib.size_eq word); omega
  have P1 := fun (wx : World) (h : RowS wx (.slice p n cap) (L.map strL)) (hl : Laid wx) => row_parse line word.data.toList _ L wx (by omega) h (by omega) f1 hl
  have P2 := fun (wx : World) (h : RowS wx (.slice p n cap) (L.map strL)) => ref07_parse line word.data.toList _ L wx (by omega) h (by omega) f1
  have J1 := fun (wx : World) (h : RowS wx (.slice p n cap) (L.map strL)) (h2 : RowN wx (.slice q m cp) ns) (hl : Laid wx) => row_line word.data.toList _ _ L ns wx h h2 (by omega) (by omega) f1 (by omega) HIN.out hl
  have J2 := fun (wx : World) (h : RowS wx (.slice p n cap) (L.map strL)) (h2 : RowN wx (.slice q m cp) ns) => ref07_line word.data.toList _ _ L ns wx h h2 (by omega) (by omega) f1 (by omega) HIN.out
  have W1' := fun (wx : World) => row_word line (by omega) wx
  have W2' := fun (wx : World) => ref07_word line (by omega) wx
  have hrl : (rowR (wordsL line.data.toList) word.data.toList L).1.length ≤ 1000000 := by
    unfold rowR
    split
    · split
      · rename_i ns' h
        have := allO_length _ _ h
        rw [List.length_zipWith] at this
        simp only; omega
      · simp
    · simp
  rw [strL_of] at P1 P2 J1 J2
  generalize rowR (wordsL line.data.toList) word.data.toList L = R at P1 P2 hrl
  generalize strL (rowL word.data.toList L ns) = JS at J1 J2
  generalize strL (wordR (wordsL line.data.toList)) = WS at W1' W2'
  obtain ⟨R1, R2⟩ := R
  have SM := Lib.hid (fun (va vb : Value) (wx : World) (h1 : RowN wx va R1) (h2 : RowN wx vb R1) => ref01_same va vb R1 hrl wx h1 h2)
  have P1 := Lib.hid P1
  have P2 := Lib.hid P2
  have J1 := Lib.hid J1
  have J2 := Lib.hid J2
  have X1 := Lib.hid W1'
  have X2 := Lib.hid W2'
  have q1 : (JS.toList == JS.toList) = true := by simp
  have q2 : (WS.toList == WS.toList) = true := by simp
  clear W1' W2' hwl hmN hrl f1 f2 HN HM HIN
  go_wp2_with fail
  refine (FW.out _ HV1.out).mono ?_
  rintro e w2 ⟨rfl, rfl⟩
  go_wp2_with fail
  refine (P1.out _ HV1.out L1.out).mono ?_
  rintro e w3 ⟨v3, rfl, hr3, hb3⟩
  obtain ⟨p3, c3, hv3⟩ : ∃ p c, v3 = .slice p R1.length c := hr3.len
  subst hv3
  have R3 := Lib.hid hr3
  have B3 := Lib.hid (B1.out.trans (hb3.mono B1.out.size))
  have HV3 := Lib.hid (HV1.out.below hb3 (Nat.le_refl _))
  have HI3 := Lib.hid (HI1.out.below hb3 (Nat.le_refl _))
  have L3 := Lib.hid (L1.out.below hb3)
  clear hr3 hb3 P1 FW HV1 HI1 L1 B1
  go_wp2_with fail
  refine (P2.out _ HV3.out).mono ?_
  rintro e w4 ⟨v4, rfl, hr4, hb4⟩
  obtain ⟨p4, c4, hv4⟩ : ∃ p c, v4 = .slice p R1.length c := hr4.len
  subst hv4
  have R4 := Lib.hid hr4
  have S4 := Lib.hid (R3.out.below hb4 (Nat.le_refl _))
  have B4 := Lib.hid (B3.out.trans (hb4.mono B3.out.size))
  have HV4 := Lib.hid (HV3.out.below hb4 (Nat.le_refl _))
  have HI4 := Lib.hid (HI3.out.below hb4 (Nat.le_refl _))
  have L4 := Lib.hid (L3.out.below hb4)
  clear hr4 hb4 P2 HV3 HI3 L3 B3 R3
  go_wp2_with fail
  refine (J1.out _ HV4.out HI4.out L4.out).mono ?_
  rintro e w5 ⟨rfl, hb5⟩
  have R5 := Lib.hid (R4.out.below hb5 (Nat.le_refl _))
  have S5 := Lib.hid (S4.out.below hb5 (Nat.le_refl _))
  have B5 := Lib.hid (B4.out.trans (hb5.mono B4.out.size))
  have HV5 := Lib.hid (HV4.out.below hb5 (Nat.le_refl _))
  have HI5 := Lib.hid (HI4.out.below hb5 (Nat.le_refl _))
  have L5 := Lib.hid (L4.out.below hb5)
  clear hb5 J1 HV4 HI4 L4 B4 R4 S4
  go_wp2_with fail
  refine (J2.out _ HV5.out HI5.out).mono ?_
  rintro e w6 ⟨rfl, hb6⟩
  have R6 := Lib.hid (R5.out.below hb6 (Nat.le_refl _))
  have S6 := Lib.hid (S5.out.below hb6 (Nat.le_refl _))
  have B6 := Lib.hid (B5.out.trans (hb6.mono B5.out.size))
  have L6 := Lib.hid (L5.out.below hb6)
  clear hb6 J2 HV5 HI5 L5 B5 R5 S5
  go_wp2_with fail
  refine (SM.out _ _ _ S6.out R6.out).mono ?_
  rintro e w7 ⟨rfl, hb7⟩
  have B7 := Lib.hid (B6.out.trans (hb7.mono B6.out.size))
  have L7 := Lib.hid (L6.out.below hb7)
  clear hb7 L6 B6 R6 S6 SM
  go_wp2_with fail
  refine (X1.out _).mono ?_
  rintro e w8 ⟨rfl, hb8⟩
  have B8 := Lib.hid (B7.out.trans (hb8.mono B7.out.size))
  have L8 := Lib.hid (L7.out.below hb8)
  clear hb8 L7 B7 X1
  go_wp2_with fail
  refine (X2.out _).mono ?_
  rintro e w9 ⟨rfl, hb9⟩
  have B9 := Lib.hid (B8.out.trans (hb9.mono B8.out.size))
  have L9 := Lib.hid (L8.out.below hb9)
  clear hb9 L8 B8 X2
  go_wp2_with fail
  refine (AW.out _ L9.out).mono ?_
  rintro e w10 ⟨rfl, hb10⟩
  have B10 := Lib.hid (B9.out.trans (hb10.mono B9.out.size))
  clear hb10 L9 B9 AW
  go_wp2_with fail
  go_ret
  exact ⟨rfl, B10.out⟩
theorem walk_RowLines (word line : ByteArray) (a1 : Option Addr) (len1 cap1 : Nat) (z1 : List ByteArray) (a2 : Option Addr) (len2 cap2 : Nat) (z2 : List Int) (w : World) (x0 : word.size ≤ maxLen) (x1 : line.size ≤ maxLen) (w1 : IsStrs w a1 len1 cap1 z1) (w2 : IsInts .i64 w a2 len2 cap2 z2) (hl : laidMetH Tryd.prog Rows.rowLinesRow.laid w) :
    Calls Tryd.prog 6 #[.agg #[.string word, .string line], .slice a1 len1 cap1, .slice a2 len2 cap2] w fun e w' => e = .returned (.bool true) ∧ Below w.heap.size w w' := by
  obtain ⟨L, h1, h2, h3, h4⟩ := isStrs_row w1
  obtain ⟨ns, g1, g2, g3, g4⟩ := isInts_row w2
  exact walk_rl word line a1 len1 cap1 L a2 len2 cap2 ns w h1 h2 h3 h4 g1 g2 g3 g4 x0 x1 (laid_of5 hl)
end Go.Proofs.YtogjckengmkfiaaDoor
