/-
  Messages as texts (reeve's layer 36): texts of many lines: the walk of the statement LetterTexts.
-/
import Derived.Test.YtanihdpgblkeaaaGreatDoorLetterAll
import Derived.Test.YtanihdpgblkeaaaGreatDoorAwake36
import Derived.Test.YtanihdpgblkeaaaGreatDoorLetterLaid
namespace Go.Proofs.YtanihdpgblkeaaaGreatDoor
open Go.RowKit
set_option linter.unusedVariables false
set_option linter.unusedSimpArgs false

theorem allG_len_letter (f : List (List UInt8) → List Int × Int) : ∀ (ls : List (List UInt8)) (acc : List (List Int)) (i : Nat), (allG f acc i ls).1.length ≤ acc.length + ls.length := by
  intro ls
  induction ls with
  | nil => intro acc i; simp [allG]
  | cons x r ih =>
    intro acc i
    unfold allG
    rw [List.length_cons]
    split
    · have := ih acc (i + 1); omega
    · split
      · have := ih (acc ++ [(f (wordsL x)).1]) (i + 1); rw [List.length_append] at this; simp at this; omega
      · simp
set_option maxRecDepth 100000 in
set_option maxHeartbeats 6400000 in
theorem walk_LetterTexts (l : Option Addr) (len cap : Nat) (s : ByteArray) (w : World) (w0 : IsFlat [.int .i64, .int .i64, .int .i64, .int .i64, .int .i64, .int .i64, .int .i64, .int .i64, .int .i64, .int .i64, .int .i64, .int .i64] w l len cap) (w1 : s.size ≤ maxLen) (hl : laidMetH Tryz.prog Rows.letterTextsRow.laid w) :
    Calls Tryz.prog 6 #[.slice l len cap, .string s] w fun e w' => e = .returned (.bool true) ∧ Below w.heap.size w w' := by
  have hl0 : len ≤ maxLen := by
    rcases isFlat_cases (by decide) w0 with h | ⟨_, _, _, _, h, _⟩
    · unfold maxLen; omega
    · exact h
  have hs63 : s.size ≤ 9223372036854775807 := by unfold maxLen at w1; omega
  have hl63 : len ≤ 9223372036854775807 := by unfold maxLen at hl0; omega
  have HP := Lib.hid (laid_letter_Texts hl)
  have AW := Lib.hid awake36
  clear hl w1 hl0
  by_cases h1 : 30 < len
  · have h1I : (30 : Int) < (len : Int) := by omega
    clear w0
    go_enter Tryz.func6, Tryz.ntmps6
    go_wp2_with fail
    refine (AW.out _ HP.out).mono ?_
    rintro e w2 ⟨rfl, hb2⟩
    have HB2 := Lib.hid hb2
    clear hb2
    go_wp2_with fail
    go_ret
    exact ⟨rfl, HB2.out⟩
  have h1I : (len : Int) ≤ 30 := by omega
  by_cases h2 : 2000 < s.size
  · have h2I : (2000 : Int) < (s.size : Int) := by omega
    clear w0
    go_enter Tryz.func6, Tryz.ntmps6
    go_wp2_with fail
    refine (AW.out _ HP.out).mono ?_
    rintro e w2 ⟨rfl, hb2⟩
    have HB2 := Lib.hid hb2
    clear hb2
    go_wp2_with fail
    go_ret
    exact ⟨rfl, HB2.out⟩
  have h2I : (s.size : Int) ≤ 2000 := by omega
  obtain ⟨L, hLl, hrow, hgood⟩ := rowM_flat (m := 12) (by decide) w0
  have T1 := fun wx h1 h2 => letter_text L (fun x hx => hgood x hx) (by omega) (.slice l len cap) wx h1 h2
  have T2 := fun wx h1 => ref36_text L (fun x hx => hgood x hx) (by omega) (.slice l len cap) wx h1
  generalize textG lineM [] L = RT at T1 T2
  obtain ⟨RT1, RT2⟩ := RT
  simp only at T1 T2
  obtain ⟨RS, hRS⟩ : ∃ R, strL RT1 = R := ⟨_, rfl⟩
  rw [hRS] at T1 T2
  have P1 := fun wx h => letter_all s (by omega) wx h
  have P2 := fun wx => ref36_all s (by omega) wx
  have hal := allG_len_letter parseM (linesL s.data.toList) [] 0
  have hll := refL_len s.data.toList [] false
  have hall : (allG parseM [] 0 (linesL s.data.toList)).1.length ≤ 1000000 := by
    rw [← Lib.size_eq] at hll
    have e : linesL s.data.toList = refL [] false s.data.toList := rfl
    rw [e] at hal ⊢
    simp at hal
    omega
  generalize allG parseM [] 0 (linesL s.data.toList) = RA at P1 P2 hall
  obtain ⟨RA1, RA2, RA3⟩ := RA
  simp only at P1 P2 hall
  have HT1 := Lib.hid T1
  have HT2 := Lib.hid T2
  have HP1 := Lib.hid P1
  have HP2 := Lib.hid P2
  have HR := Lib.hid hrow
  have HLE := Lib.hid hall
  have q1 : (RS.toList == RS.toList) = true := by simp
  clear w0 hLl hrow hgood T1 T2 hRS P1 P2 hal hll hall h1 h2
  go_enter Tryz.func6, Tryz.ntmps6
  go_wp2_with fail
  refine (HT1.out _ HR.out HP.out).mono ?_
  rintro e w2 ⟨rfl, hb2⟩
  have B2 := Lib.hid hb2
  clear hb2 HT1
  go_wp2_with fail
  refine (HT2.out _ (HR.out.below B2.out (Nat.le_refl _))).mono ?_
  rintro e w3 ⟨rfl, hb3⟩
  have B3 := Lib.hid (B2.out.trans (hb3.mono B2.out.size))
  clear hb3 HT2 B2
  go_wp2_with fail
  refine (HP1.out _ (HP.out.below B3.out)).mono ?_
  rintro e w4 ⟨v1, rfl, ho1, hg1, hb4⟩
  have B4 := Lib.hid (B3.out.trans (hb4.mono B3.out.size))
  have R4 := Lib.hid (OwnM.row hg1 ho1)
  have G1 := Lib.hid hg1
  clear hb4 HP1 B3 ho1 hg1
  go_wp2_with fail
  refine (HP2.out _).mono ?_
  rintro e w5 ⟨v2, rfl, ho2, hg2, hb5⟩
  have B5 := Lib.hid (B4.out.trans (hb5.mono B4.out.size))
  have R5 := Lib.hid (R4.out.below hb5 (Nat.le_refl _))
  have S5 := Lib.hid (OwnM.row hg2 ho2)
  clear hb5 HP2 B4 ho2 hg2 R4
  go_wp2_with fail
  refine (ref35_same RA1 G1.out HLE.out v1 v2 _ R5.out S5.out).mono ?_
  rintro e w6 ⟨rfl, hb6⟩
  have B6 := Lib.hid (B5.out.trans (hb6.mono B5.out.size))
  clear hb6 B5 R5 S5
  go_wp2_with fail
  refine (AW.out _ (HP.out.below B6.out)).mono ?_
  rintro e w7 ⟨rfl, hb7⟩
  have B7 := Lib.hid (B6.out.trans (hb7.mono B6.out.size))
  clear hb7 B6
  go_wp2_with fail
  go_ret
  exact ⟨rfl, B7.out⟩
end Go.Proofs.YtanihdpgblkeaaaGreatDoor
