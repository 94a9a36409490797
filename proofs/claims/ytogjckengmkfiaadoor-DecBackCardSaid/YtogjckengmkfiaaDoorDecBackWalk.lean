/-
  The walk of the statement DecBack.
-/
import Derived.Test.YtogjckengmkfiaaDoorAwake05
import Derived.Test.YtogjckengmkfiaaDoorDecLaid
import Derived.Test.YtogjckengmkfiaaDoorHexParse
import Derived.Test.YtogjckengmkfiaaDoorDecBackMath
namespace Go.Proofs.YtogjckengmkfiaaDoor
open Go.RowKit
set_option linter.unusedVariables false
set_option linter.unusedSimpArgs false

set_option maxRecDepth 100000 in
set_option maxHeartbeats 6400000 in
theorem walk_db (q : Option Addr) (m cp : Nat) (ns : List Int) (s : ByteArray) (w : World) (hi : RowN w (.slice q m cp) ns) (hm : ns.length = m) (hmm : m ≤ maxLen) (hin : ∀ n ∈ ns, inI n) (hs : s.size ≤ maxLen) (hL : Laid w) :
    Calls Tryd.prog 14 #[.slice q m cp, .string s] w fun e w' => e = .returned (.bool true) ∧ Below w.heap.size w w' := by
  have hs63 : s.size ≤ 9223372036854775807 := by unfold maxLen at hs; omega
  have hm63 : m ≤ 9223372036854775807 := by unfold maxLen at hmm; omega
  have AW := Lib.hid awake05
  have L0 := Lib.hid hL
  by_cases h1 : 20 < m
  · have h1I : (20 : Int) < (m : Int) := by omega
    clear h1 hL
    go_enter Tryd.func14, Tryd.ntmps14
    go_wp2_with fail
    refine (AW.out _ L0.out).mono ?_
    rintro e w1 ⟨rfl, hb1⟩
    go_wp2_with fail
    go_ret
    exact ⟨rfl, hb1⟩
  have h1I : (m : Int) ≤ 20 := by omega
  by_cases h2 : 100 < s.size
  · have h2I : (100 : Int) < (s.size : Int) := by omega
    clear h2 hL
    go_enter Tryd.func14, Tryd.ntmps14
    go_wp2_with fail
    refine (AW.out _ L0.out).mono ?_
    rintro e w1 ⟨rfl, hb1⟩
    go_wp2_with fail
    go_ret
    exact ⟨rfl, hb1⟩
  have h2I : (s.size : Int) ≤ 100 := by omega
  have hsl : s.data.toList.length = s.size := (Lib.size_eq s).symm
  have hll := listL_len ns hin
  have J1 := Lib.hid (fun (wx : World) (v : Value) (h : RowN wx v ns) (hl : Laid wx) => dec_list v ns wx h (by omega) hin hl)
  have P1 := fun wx h => dec_parseList (strL (listL ns)) m (by rw [strL_size]; omega) wx h
  rw [strL_list] at P1
  have hp1 : 0 < m → listR (listL ns) m = (ns, 0) := by
    intro h
    have := listR_listL_d ns (by rintro rfl; simp at hm; omega) hin
    rw [hm] at this
    exact this
  have hp0 : m = 0 → (listR (listL ns) m).1 = [] := by
    intro h
    have : ns = [] := List.eq_nil_of_length_eq_zero (by omega)
    rw [this, h]
    decide
  have D1 := Lib.hid (fun wx h => dec_parse s (by omega) wx h)
  have hok := decR_ok (l := s.data.toList)
  have herr := decR_err s.data.toList
  have T1 := fun (h : inI (decR s.data.toList).1) (wx : World) (hl : Laid wx) => dec_text _ h wx hl
  have Y1 := Lib.hid (fun wx => dec_hex s (by omega) wx)
  have X1 := fun wx => dec_parseHex (strL (hexL s.data.toList)) (by rw [strL_size, hexL_length]; omega) wx
  rw [strL_list, hex_back, strL_of] at X1
  have X2 := Lib.hid (fun wx => dec_parseHex s (by omega) wx)
  have hx := hex_only s.data.toList
  have hxe := hexR_err s.data.toList
  have hxl := hexR_le s.data.toList
  have Y2 := fun wx => dec_hex (strL (hexR s.data.toList).1) (by rw [strL_size]; omega) wx
  rw [strL_list] at Y2
  generalize strL (listL ns) = JS at J1 P1
  generalize listR (listL ns) m = LR at P1 hp1 hp0
  obtain ⟨LR1, LR2⟩ := LR
  generalize hDR : decR s.data.toList = DR at D1 hok herr T1
  obtain ⟨n, f⟩ := DR
  generalize strL (hexL s.data.toList) = HS at Y1 X1
  generalize hexR s.data.toList = HR at X2 hx hxe hxl Y2
  obtain ⟨C1, C2⟩ := HR
  have P1 := Lib.hid P1
  have X1 := Lib.hid X1
  have q1 : (s.toList == s.toList) = true := by simp
  have q1' : (s.toList != s.toList) = false := by simp
  have SM := Lib.hid (fun (va vb : Value) (wx : World) (h1 : RowN wx va ns) (h2 : RowN wx vb ns) => ref01_same va vb ns (by omega) wx h1 h2)
  have HI := Lib.hid hi
  have HM := Lib.hid hm
  have HP1 := Lib.hid hp1
  have HP0 := Lib.hid hp0
  simp only at hok herr hx hxe T1 Y2
  have HOK := Lib.hid hok
  have HX := Lib.hid hx
  have HT := Lib.hid T1
  have HY := Lib.hid Y2
  clear hp1 hp0 hi hm hL h1 h2 hll hin hok hDR hx hxl T1 Y2 hsl
  go_enter Tryd.func14, Tryd.ntmps14
  go_wp2_with fail
  refine (J1.out _ _ HI.out L0.out).mono ?_
  rintro e w1 ⟨rfl, hb1⟩
  have B1 := Lib.hid hb1
  have I1 := Lib.hid (HI.out.below hb1 (Nat.le_refl _))
  have L1 := Lib.hid (L0.out.below hb1)
  clear hb1 J1 HI
  go_wp2_with fail
  refine (P1.out _ L1.out).mono ?_
  rintro e w2 ⟨v2, rfl, hr2, hb2⟩
  have B2 := Lib.hid (B1.out.trans (hb2.mono B1.out.size))
  have I2 := Lib.hid (I1.out.below hb2 (Nat.le_refl _))
  have L2 := Lib.hid (L1.out.below hb2)
  have R2 := Lib.hid hr2
  obtain ⟨p2, c2, hv2⟩ : ∃ p c, v2 = .slice p LR1.length c := hr2.len
  subst hv2
  clear hb2 hr2 P1 B1 I1 L1
  go_upto_region 4 with fail
  go_cut [42] (fun v42 wx => v42 = .bool false ∧ Hid (Below w.heap.size w wx) ∧ Hid (Laid wx))
  case first =>
    by_cases hm0 : 0 < m
    · have hmI : (0 : Int) < (m : Int) := by omega
      have hq := HP1.out hm0
      obtain rfl : LR1 = ns := (Prod.mk.inj hq).1
      obtain rfl : LR2 = 0 := (Prod.mk.inj hq).2
      clear hq HP1 HP0
      go_wp2_with fail
      refine (SM.out _ _ _ R2.out I2.out).mono ?_
      rintro e w3 ⟨rfl, hb3⟩
      have B3 := Lib.hid (B2.out.trans (hb3.mono B2.out.size))
      have L3 := Lib.hid (L2.out.below hb3)
      clear hb3
      go_wp2_with fail
      go_meet
      exact ⟨rfl, B3, L3⟩
    · obtain rfl : m = 0 := by omega
      go_wp2_with fail
      go_meet
      exact ⟨rfl, B2, L2⟩
  case rest =>
  obtain ⟨rfl, B3, L3⟩ := hcut
  clear B2 L2 R2 I2 SM HP1 HP0 HM
  go_wp2_with fail
  refine (D1.out _ L3.out).mono ?_
  rintro e w4 ⟨rfl, hb4⟩
  have B4 := Lib.hid (B3.out.trans (hb4.mono B3.out.size))
  have L4 := Lib.hid (L3.out.below hb4)
  clear hb4 B3 L3 D1
  go_upto_region 7 with fail
  go_cut [55] (fun v55 wx => v55 = .bool false ∧ Hid (Below w.heap.size w wx) ∧ Hid (Laid wx))
  case first =>
    rcases herr with rfl | rfl
    · obtain ⟨h1, h2⟩ := HOK.out rfl
      have T := HT.out h1
      rw [h2, strL_of] at T
      have T := Lib.hid T
      clear h1 h2 HOK HT
      go_wp2_with fail
      refine (T.out _ L4.out).mono ?_
      rintro e w5 ⟨rfl, hb5⟩
      have B5 := Lib.hid (B4.out.trans (hb5.mono B4.out.size))
      have L5 := Lib.hid (L4.out.below hb5)
      clear hb5
      go_wp2_with fail
      go_meet
      exact ⟨rfl, B5, L5⟩
    · go_wp2_with fail
      go_meet
      exact ⟨rfl, B4, L4⟩
  case rest =>
  obtain ⟨rfl, B5, L5⟩ := hcut
  clear B4 L4 HOK HT herr
  go_wp2_with fail
  refine (Y1.out _).mono ?_
  rintro e w6 ⟨rfl, hb6⟩
  have B6 := Lib.hid (B5.out.trans (hb6.mono B5.out.size))
  have L6 := Lib.hid (L5.out.below hb6)
  clear hb6 B5 L5 Y1
  go_wp2_with fail
  refine (X1.out _).mono ?_
  rintro e w7 ⟨rfl, hb7⟩
  have B7 := Lib.hid (B6.out.trans (hb7.mono B6.out.size))
  have L7 := Lib.hid (L6.out.below hb7)
  clear hb7 B6 L6 X1
  go_wp2_with fail
  refine (X2.out _).mono ?_
  rintro e w8 ⟨rfl, hb8⟩
  have B8 := Lib.hid (B7.out.trans (hb8.mono B7.out.size))
  have L8 := Lib.hid (L7.out.below hb8)
  clear hb8 B7 L7 X2
  rcases hxe with rfl | rfl
  · have h2 := HX.out rfl
    have Y := HY.out
    rw [h2, strL_of] at Y
    have Y := Lib.hid Y
    generalize strL C1 = CB at *
    clear h2 HX HY
    go_wp2_with fail
    refine (Y.out _).mono ?_
    rintro e w9 ⟨rfl, hb9⟩
    have B9 := Lib.hid (B8.out.trans (hb9.mono B8.out.size))
    have L9 := Lib.hid (L8.out.below hb9)
    clear hb9
    go_wp2_with fail
    refine (AW.out _ L9.out).mono ?_
    rintro e w10 ⟨rfl, hb10⟩
    have B10 := Lib.hid (B9.out.trans (hb10.mono B9.out.size))
    clear hb10
    go_wp2_with fail
    go_ret
    exact ⟨rfl, B10.out⟩
  · generalize strL C1 = CB at *
    clear HX HY
    go_wp2_with fail
    refine (AW.out _ L8.out).mono ?_
    rintro e w10 ⟨rfl, hb10⟩
    have B10 := Lib.hid (B8.out.trans (hb10.mono B8.out.size))
    clear hb10
    go_wp2_with fail
    go_ret
    exact ⟨rfl, B10.out⟩
theorem walk_DecBack (a0 : Option Addr) (len0 cap0 : Nat) (z0 : List Int) (s : ByteArray) (w : World) (w0 : IsInts .i64 w a0 len0 cap0 z0) (w1 : s.size ≤ maxLen) (hl : laidMetH Tryd.prog Rows.decBackRow.laid w) :
    Calls Tryd.prog 14 #[.slice a0 len0 cap0, .string s] w fun e w' => e = .returned (.bool true) ∧ Below w.heap.size w w' := by
  obtain ⟨ns, g1, g2, g3, g4⟩ := isInts_row_d w0
  exact walk_db a0 len0 cap0 ns s w g1 g2 g3 g4 w1 (laid_of7 hl)
end Go.Proofs.YtogjckengmkfiaaDoor
