/-
  The walk of the statement DecLists.
-/
import Derived.Test.YtogjckengmkfiaaDoorAwake05
import Derived.Test.YtogjckengmkfiaaDoorDecLaid
import Derived.Test.YtogjckengmkfiaaDoorDecRefList
import Derived.Test.YtogjckengmkfiaaDoorHexParse
import Derived.Test.YtogjckengmkfiaaDoorDecBackMath
namespace Go.Proofs.YtogjckengmkfiaaDoor
open Go.RowKit
set_option linter.unusedVariables false
set_option linter.unusedSimpArgs false

set_option maxRecDepth 100000 in
set_option maxHeartbeats 6400000 in
theorem walk_dl (q : Option Addr) (m cp : Nat) (ns : List Int) (s : ByteArray) (many : Int) (w : World) (hi : RowN w (.slice q m cp) ns) (hm : ns.length = m) (hmm : m ≤ maxLen) (hin : ∀ n ∈ ns, inI n) (hs : s.size ≤ maxLen) (hL : Laid w) :
    Calls Tryd.prog 13 #[.slice q m cp, .string s, .int .i64 many] w fun e w' => e = .returned (.bool true) ∧ Below w.heap.size w w' := by
  have hs63 : s.size ≤ 9223372036854775807 := by unfold maxLen at hs; omega
  have hm63 : m ≤ 9223372036854775807 := by unfold maxLen at hmm; omega
  have AW := Lib.hid awake05
  have L0 := Lib.hid hL
  by_cases h1 : 20 < m
  · have h1I : (20 : Int) < (m : Int) := by omega
    clear h1 hL
    go_enter Tryd.func13, Tryd.ntmps13
    go_wp2_with fail
    refine (AW.out _ L0.out).mono ?_
    rintro e w1 ⟨rfl, hb1⟩
    go_wp2_with fail
    go_ret
    exact ⟨rfl, hb1⟩
  have h1I : (m : Int) ≤ 20 := by omega
  by_cases h2 : 200 < s.size
  · have h2I : (200 : Int) < (s.size : Int) := by omega
    clear h2 hL
    go_enter Tryd.func13, Tryd.ntmps13
    go_wp2_with fail
    refine (AW.out _ L0.out).mono ?_
    rintro e w1 ⟨rfl, hb1⟩
    go_wp2_with fail
    go_ret
    exact ⟨rfl, hb1⟩
  have h2I : (s.size : Int) ≤ 200 := by omega
  have hsl : s.data.toList.length = s.size := (Lib.size_eq s).symm
  have P1 := Lib.hid (fun wx h => dec_parseList s many (by omega) wx h)
  have P2 := Lib.hid (fun wx => ref05_parseList s many (by omega) wx)
  have X1 := Lib.hid (fun wx => dec_parseHex s (by omega) wx)
  have X2 := Lib.hid (fun wx => ref05_parseHex s (by omega) wx)
  have J1 := Lib.hid (fun (wx : World) (v : Value) (h : RowN wx v ns) (hl : Laid wx) => dec_list v ns wx h (by omega) hin hl)
  have J2 := Lib.hid (fun (wx : World) (v : Value) (h : RowN wx v ns) => ref05_list v ns wx h (by omega) hin)
  have Y1 := Lib.hid (fun wx => dec_hex s (by omega) wx)
  have Y2 := Lib.hid (fun wx => ref05_hex s (by omega) wx)
  have hle := listR_len s.data.toList many
  rw [hsl] at hle
  generalize listR s.data.toList many = R at P1 P2 hle
  obtain ⟨R1, R2⟩ := R
  generalize hexR s.data.toList = H at X1 X2
  obtain ⟨H1, H2⟩ := H
  generalize strL (listL ns) = JS at J1 J2
  generalize strL (hexL s.data.toList) = HS at Y1 Y2
  have SM := Lib.hid (fun (va vb : Value) (wx : World) (h1 : RowN wx va R1) (h2 : RowN wx vb R1) => ref01_same va vb R1 (by simp only at hle; omega) wx h1 h2)
  simp only at X1 X2
  generalize strL H1 = HB at X1 X2
  have q1 : (JS.toList == JS.toList) = true := by simp
  have q2 : (HS.toList == HS.toList) = true := by simp
  have q3 : (HB.toList == HB.toList) = true := by simp
  have HI := Lib.hid hi
  clear hle hsl hi hL h1 h2 hin hm
  go_enter Tryd.func13, Tryd.ntmps13
  go_wp2_with fail
  refine (P1.out _ L0.out).mono ?_
  rintro e w1 ⟨v1, rfl, hr1, hb1⟩
  obtain ⟨p1, c1, hv1⟩ : ∃ p c, v1 = .slice p R1.length c := hr1.len
  subst hv1
  have R1' := Lib.hid hr1
  have B1 := Lib.hid hb1
  have I1 := Lib.hid (HI.out.below hb1 (Nat.le_refl _))
  have L1 := Lib.hid (L0.out.below hb1)
  clear hr1 hb1 P1 HI
  go_wp2_with fail
  refine (P2.out _).mono ?_
  rintro e w2 ⟨v2, rfl, hr2, hb2⟩
  obtain ⟨p2, c2, hv2⟩ : ∃ p c, v2 = .slice p R1.length c := hr2.len
  subst hv2
  have S2 := Lib.hid hr2
  have R2' := Lib.hid (R1'.out.below hb2 (Nat.le_refl _))
  have B2 := Lib.hid (B1.out.trans (hb2.mono B1.out.size))
  have I2 := Lib.hid (I1.out.below hb2 (Nat.le_refl _))
  have L2 := Lib.hid (L1.out.below hb2)
  clear hr2 hb2 P2 R1' B1 I1 L1
  go_wp2_with fail
  refine (X1.out _).mono ?_
  rintro e w3 ⟨rfl, hb3⟩
  have S3 := Lib.hid (S2.out.below hb3 (Nat.le_refl _))
  have R3 := Lib.hid (R2'.out.below hb3 (Nat.le_refl _))
  have B3 := Lib.hid (B2.out.trans (hb3.mono B2.out.size))
  have I3 := Lib.hid (I2.out.below hb3 (Nat.le_refl _))
  have L3 := Lib.hid (L2.out.below hb3)
  clear hb3 X1 S2 R2' B2 I2 L2
  go_wp2_with fail
  refine (X2.out _).mono ?_
  rintro e w4 ⟨rfl, hb4⟩
  have S4 := Lib.hid (S3.out.below hb4 (Nat.le_refl _))
  have R4 := Lib.hid (R3.out.below hb4 (Nat.le_refl _))
  have B4 := Lib.hid (B3.out.trans (hb4.mono B3.out.size))
  have I4 := Lib.hid (I3.out.below hb4 (Nat.le_refl _))
  have L4 := Lib.hid (L3.out.below hb4)
  clear hb4 X2 S3 R3 B3 I3 L3
  go_wp2_with fail
  refine (J1.out _ _ I4.out L4.out).mono ?_
  rintro e w5 ⟨rfl, hb5⟩
  have S5 := Lib.hid (S4.out.below hb5 (Nat.le_refl _))
  have R5 := Lib.hid (R4.out.below hb5 (Nat.le_refl _))
  have B5 := Lib.hid (B4.out.trans (hb5.mono B4.out.size))
  have I5 := Lib.hid (I4.out.below hb5 (Nat.le_refl _))
  have L5 := Lib.hid (L4.out.below hb5)
  clear hb5 J1 S4 R4 B4 I4 L4
  go_wp2_with fail
  refine (J2.out _ _ I5.out).mono ?_
  rintro e w6 ⟨rfl, rfl⟩
  go_wp2_with fail
  refine (SM.out _ _ _ R5.out S5.out).mono ?_
  rintro e w7 ⟨rfl, hb7⟩
  have B7 := Lib.hid (B5.out.trans (hb7.mono B5.out.size))
  have L7 := Lib.hid (L5.out.below hb7)
  clear hb7 J2 SM S5 R5 B5 I5 L5
  go_wp2_with fail
  refine (Y1.out _).mono ?_
  rintro e w8 ⟨rfl, hb8⟩
  have B8 := Lib.hid (B7.out.trans (hb8.mono B7.out.size))
  have L8 := Lib.hid (L7.out.below hb8)
  clear hb8 Y1 B7 L7
  go_wp2_with fail
  refine (Y2.out _).mono ?_
  rintro e w9 ⟨rfl, mm, hw9⟩
  have B9 : Hid (Below w.heap.size w w9) := Lib.hid (by rw [hw9]; exact B8.out.trans ((below_drewN _ _).mono B8.out.size))
  have L9 : Hid (Laid w9) := Lib.hid (by rw [hw9]; exact L8.out.below (below_drewN _ _))
  clear hw9 Y2 B8 L8
  go_wp2_with fail
  refine (AW.out _ L9.out).mono ?_
  rintro e w10 ⟨rfl, hb10⟩
  have B10 := Lib.hid (B9.out.trans (hb10.mono B9.out.size))
  clear hb10
  go_wp2_with fail
  go_ret
  exact ⟨rfl, B10.out⟩
theorem walk_DecLists (a0 : Option Addr) (len0 cap0 : Nat) (z0 : List Int) (s : ByteArray) (many : Int) (w : World) (w0 : IsInts .i64 w a0 len0 cap0 z0) (w1 : s.size ≤ maxLen) (w2 : (Lit.int .i64 many).wf = true) (hl : laidMetH Tryd.prog Rows.decListsRow.laid w) :
    Calls Tryd.prog 13 #[.slice a0 len0 cap0, .string s, .int .i64 many] w fun e w' => e = .returned (.bool true) ∧ Below w.heap.size w w' := by
  obtain ⟨ns, g1, g2, g3, g4⟩ := isInts_row_d w0
  exact walk_dl a0 len0 cap0 ns s many w g1 g2 g3 g4 w1 (laid_of7 hl)
end Go.Proofs.YtogjckengmkfiaaDoor
