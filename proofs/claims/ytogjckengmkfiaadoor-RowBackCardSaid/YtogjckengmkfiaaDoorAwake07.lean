/-
  Numbers that came in, as a row; and what must come whatever the arguments are (the statements of reeve's layer 7): the walk.
-/
import Derived.Test.YtogjckengmkfiaaDoorRowRef
import Derived.Test.YtogjckengmkfiaaDoorAwake05
import Derived.Test.YtogjckengmkfiaaDoorDecLaid
namespace Go.Proofs.YtogjckengmkfiaaDoor
open Go.RowKit
set_option linter.unusedVariables false
set_option linter.unusedSimpArgs false

theorem isInts_row {w : World} {a : Option Addr} {len cap : Nat} {zs : List Int} (h : IsInts .i64 w a len cap zs) : ∃ L : List Int, RowN w (.slice a len cap) L ∧ L.length = len ∧ len ≤ maxLen ∧ ∀ n ∈ L, inI n := by
  have hlm : len ≤ maxLen := by
    rcases h with ⟨_, rfl, _⟩ | ⟨_, _, h1, h2, _⟩
    · exact Nat.zero_le _
    · omega
  rcases isInts_cases h with rfl | ⟨b, off, rfl, h0, h1, h2, h3, h4, h5⟩
  · exact ⟨[], .inl ⟨_, _, rfl, rfl⟩, rfl, Nat.zero_le _, by simp⟩
  · refine ⟨(List.range len).map (fun i => zs.getD i 0), ?_, by simp, hlm, ?_⟩
    · refine .inr ⟨b, off, cap, by simp, h3, fun j x hj => ?_, by simpa using h2⟩
      have hjl : j < len := by have := (List.getElem?_eq_some_iff.1 hj).1; simpa using this
      rw [h4 j hjl]
      rw [List.getElem?_map, List.getElem?_range hjl] at hj
      simp only [Option.map_some, Option.some.injEq] at hj
      rw [hj]
    · intro n hn
      rw [List.mem_map] at hn
      obtain ⟨i, hi, rfl⟩ := hn
      have := bounds_i64 (h5 i (by simpa using hi))
      unfold inI
      omega
/-- The first numbers of a slice. -/
theorem RowN.take {w : World} {p : Option Addr} {n cap : Nat} {l : List Int} (h : RowN w (.slice p n cap) l) (k : Nat) (hk : k ≤ l.length) : RowN w (.slice p k cap) (l.take k) := by
  rcases h with ⟨p', cap', e, rfl⟩ | ⟨b, off, cap', e, h2, h3, h4⟩
  · simp at hk; subst hk
    cases e
    exact .inl ⟨_, _, rfl, by simp⟩
  · cases e
    refine .inr ⟨b, off, _, by rw [List.length_take, Nat.min_eq_left hk], h2, fun j x hj => ?_, by rw [List.length_take]; omega⟩
    have hjk : j < k := by have := (List.getElem?_eq_some_iff.1 hj).1; rw [List.length_take] at this; omega
    rw [List.getElem?_take_of_lt hjk] at hj
    exact h3 j x hj
theorem aw7_line : rowL [110, 111, 100, 101] [[105, 100], [105, 110, 99]] [1, -2] = [110, 111, 100, 101, 32, 105, 100, 61, 49, 32, 105, 110, 99, 61, 45, 50] := by
  unfold rowL
  simp only [rowP]
  rw [aw5_c, aw5_d]
  decide
theorem aw7_words : wordsL (32 :: ([110, 111, 100, 101, 32, 105, 100, 61, 49, 32, 105, 110, 99, 61, 45, 50] ++ [9, 35, 32, 120])) = [[110, 111, 100, 101], [105, 100, 61, 49], [105, 110, 99, 61, 45, 50]] := by simp [wordsL, refW, isB]
theorem aw7_words2 : wordsL [110, 111, 100, 101, 32, 105, 100, 61, 49, 32, 105, 110, 99, 61, 45, 50] = [[110, 111, 100, 101], [105, 100, 61, 49], [105, 110, 99, 61, 45, 50]] := by simp [wordsL, refW, isB]
theorem aw7_one : rowR [[110, 111, 100, 101], [105, 100, 61, 49], [105, 110, 99, 61, 45, 50]] [110, 111, 100, 101] [[105, 100], [105, 110, 99]] = ([1, -2], 0) := by
  have h := row_back [110, 111, 100, 101] [[105, 100], [105, 110, 99]] [1, -2] (by decide) (by decide)
  simp only [rowP] at h
  rw [aw5_c, aw5_d] at h
  exact h
theorem aw7_two : rowR [[110, 111, 100, 101], [105, 100, 61, 49], [105, 110, 99, 61, 45, 50]] [110, 111, 100, 101] [[105, 100]] = ([], 2) := rowR_bad (by decide)
theorem aw7_L (w : World) (v1 v2 : Value) (hl : Laid w) (h1 : RowS w v1 [⟨#[105, 100]⟩, ⟨#[105, 110, 99]⟩]) (h2 : RowN w v2 [1, -2]) : Calls Tryd.prog 33 #[.string ⟨#[110, 111, 100, 101]⟩, v1, v2] w fun e w' => e = .returned (.string ⟨#[110, 111, 100, 101, 32, 105, 100, 61, 49, 32, 105, 110, 99, 61, 45, 50]⟩) ∧ Below w.heap.size w w' := by
  have h := row_line [110, 111, 100, 101] v1 v2 [[105, 100], [105, 110, 99]] [1, -2] w h1 h2 (by decide) (by decide) (by decide) (by decide) (by decide) hl
  rw [aw7_line] at h
  exact h
theorem aw7_P (w : World) (v1 : Value) (hl : Laid w) (h1 : RowS w v1 [⟨#[105, 100]⟩, ⟨#[105, 110, 99]⟩]) : Calls Tryd.prog 31 #[.string ⟨#[32, 110, 111, 100, 101, 32, 105, 100, 61, 49, 32, 105, 110, 99, 61, 45, 50, 9, 35, 32, 120]⟩, .string ⟨#[110, 111, 100, 101]⟩, v1] w fun e w' => ∃ v, e = .returned (.tuple #[v, .int .i64 0]) ∧ RowN w' v [1, -2] ∧ Below w.heap.size w w' := by
  have h := row_parse ⟨#[32, 110, 111, 100, 101, 32, 105, 100, 61, 49, 32, 105, 110, 99, 61, 45, 50, 9, 35, 32, 120]⟩ [110, 111, 100, 101] v1 [[105, 100], [105, 110, 99]] w (by decide) h1 (by decide) (by decide) hl
  rw [show wordsL (⟨#[32, 110, 111, 100, 101, 32, 105, 100, 61, 49, 32, 105, 110, 99, 61, 45, 50, 9, 35, 32, 120]⟩ : ByteArray).data.toList = [[110, 111, 100, 101], [105, 100, 61, 49], [105, 110, 99, 61, 45, 50]] from aw7_words, aw7_one] at h
  exact h
theorem aw7_Q (w : World) (v1 : Value) (hl : Laid w) (h1 : RowS w v1 [⟨#[105, 100]⟩]) : Calls Tryd.prog 31 #[.string ⟨#[110, 111, 100, 101, 32, 105, 100, 61, 49, 32, 105, 110, 99, 61, 45, 50]⟩, .string ⟨#[110, 111, 100, 101]⟩, v1] w fun e w' => ∃ v, e = .returned (.tuple #[v, .int .i64 2]) ∧ RowN w' v [] ∧ Below w.heap.size w w' := by
  have h := row_parse ⟨#[110, 111, 100, 101, 32, 105, 100, 61, 49, 32, 105, 110, 99, 61, 45, 50]⟩ [110, 111, 100, 101] v1 [[105, 100]] w (by decide) h1 (by decide) (by decide) hl
  rw [show wordsL (⟨#[110, 111, 100, 101, 32, 105, 100, 61, 49, 32, 105, 110, 99, 61, 45, 50]⟩ : ByteArray).data.toList = [[110, 111, 100, 101], [105, 100, 61, 49], [105, 110, 99, 61, 45, 50]] from aw7_words2, aw7_two] at h
  exact h
theorem aw7_W (w : World) : Calls Tryd.prog 36 #[.string ⟨#[110, 111, 100, 101, 32, 105, 100, 61, 49, 32, 105, 110, 99, 61, 45, 50]⟩] w fun e w' => e = .returned (.string ⟨#[110, 111, 100, 101]⟩) ∧ Below w.heap.size w w' := by
  have h := row_word ⟨#[110, 111, 100, 101, 32, 105, 100, 61, 49, 32, 105, 110, 99, 61, 45, 50]⟩ (by decide) w
  rw [show wordsL (⟨#[110, 111, 100, 101, 32, 105, 100, 61, 49, 32, 105, 110, 99, 61, 45, 50]⟩ : ByteArray).data.toList = [[110, 111, 100, 101], [105, 100, 61, 49], [105, 110, 99, 61, 45, 50]] from aw7_words2] at h
  exact h
theorem two_slices (w : World) (a b : ByteArray) (c d : Int) : RowS ((w.alloc (.cells #[.string a, .string b] 9)).alloc (.cells #[.int .i64 c, .int .i64 d] 3)) (.slice (some ⟨w.heap.size, 0, none⟩) 2 2) [a, b] ∧ RowN ((w.alloc (.cells #[.string a, .string b] 9)).alloc (.cells #[.int .i64 c, .int .i64 d] 3)) (.slice (some ⟨w.heap.size + 1, 0, none⟩) 2 2) [c, d] := by
  refine ⟨(rowS_two w a b).below ((Below.refl _ _).alloc (Nat.le_refl _) _) (Nat.le_refl _), ?_⟩
  have h := rowN_two (w.alloc (.cells #[.string a, .string b] 9)) c d
  rw [show (w.alloc (.cells #[.string a, .string b] 9)).heap.size = w.heap.size + 1 by simp] at h
  exact h
set_option maxRecDepth 100000 in
set_option maxHeartbeats 3200000 in
theorem awake07 (w : World) (hl : Laid w) : Calls Tryd.prog 30 #[] w fun e w' => e = .returned (.bool true) ∧ Below w.heap.size w w' := by
  have L := Lib.hid aw7_L
  have P := Lib.hid aw7_P
  have Q := Lib.hid aw7_Q
  have W := Lib.hid aw7_W
  have L0 := Lib.hid hl
  obtain ⟨r1, r2⟩ := two_slices w ⟨#[105, 100]⟩ ⟨#[105, 110, 99]⟩ 1 (-2)
  have R1 := Lib.hid r1
  have R2 := Lib.hid r2
  have hb0 : Below w.heap.size w ((w.alloc (.cells #[.string ⟨#[105, 100]⟩, .string ⟨#[105, 110, 99]⟩] 9)).alloc (.cells #[.int .i64 1, .int .i64 (-2)] 3)) := ((Below.refl _ _).alloc (Nat.le_refl _) _).alloc (by simp) _
  have B0 := Lib.hid hb0
  clear hl r1 r2 hb0
  go_enter Tryd.func30, Tryd.ntmps30
  go_wp2_with fail
  refine (L.out _ _ _ (L0.out.below B0.out) R1.out R2.out).mono ?_
  rintro e w1 ⟨rfl, hb1⟩
  have B1 := Lib.hid (B0.out.trans (hb1.mono B0.out.size))
  have L1 := Lib.hid (L0.out.below B1.out)
  clear hb1 R1 R2 L B0
  go_wp2_with fail
  refine (P.out _ _ (L1.out.below ((Below.refl _ _).alloc (Nat.le_refl _) _)) (rowS_two w1 _ _)).mono ?_
  rintro e w2 ⟨v2, rfl, hr2, hb2⟩
  have R2 := Lib.hid hr2
  obtain ⟨p2, c2, hv2⟩ : ∃ p c, v2 = .slice p 2 c := hr2.len
  subst hv2
  have B2 := Lib.hid ((B1.out.alloc B1.out.size (.cells #[.string ⟨#[105, 100]⟩, .string ⟨#[105, 110, 99]⟩] 9)).trans (hb2.mono (by have := B1.out.size; simp; omega)))
  have L2 := Lib.hid (L0.out.below B2.out)
  clear hb2 hr2 P L1 B1
  go_wp2_with fail
  refine (Q.out _ _ (L2.out.below ((Below.refl _ _).alloc (Nat.le_refl _) _)) (rowS_one w2 _)).mono ?_
  rintro e w3 ⟨v3, rfl, hr3, hb3⟩
  have hb3' : Below w2.heap.size w2 w3 := ((Below.refl w2.heap.size w2).alloc (Nat.le_refl _) (.cells #[.string ⟨#[105, 100]⟩] 9)).trans (hb3.mono (by simp))
  have R3 := Lib.hid (R2.out.below hb3' (Nat.le_refl _))
  have B3 := Lib.hid (B2.out.trans (hb3'.mono B2.out.size))
  obtain ⟨p3, c3, hv3⟩ : ∃ p c, v3 = .slice p 0 c := hr3.len
  subst hv3
  clear hb3 hb3' hr3 Q L2 B2 R2
  go_wp2_with fail
  refine (ref01_same _ _ [1, -2] (by simp) _ (R3.out.below ((Below.refl w3.heap.size w3).alloc (Nat.le_refl _) _) (Nat.le_refl _)) (rowN_two w3 1 (-2))).mono ?_
  rintro e w5 ⟨rfl, hb5⟩
  have hb5' : Below w3.heap.size w3 w5 := ((Below.refl w3.heap.size w3).alloc (Nat.le_refl _) (.cells #[.int .i64 1, .int .i64 (-2)] 3)).trans (hb5.mono (by simp))
  have B5 := Lib.hid (B3.out.trans (hb5'.mono B3.out.size))
  clear hb5 hb5' B3 R3
  go_wp2_with fail
  refine (W.out _).mono ?_
  rintro e w6 ⟨rfl, hb6⟩
  have B6 := Lib.hid (B5.out.trans (hb6.mono B5.out.size))
  clear hb6 B5
  go_wp2_with fail
  go_ret
  exact ⟨rfl, B6.out⟩
end Go.Proofs.YtogjckengmkfiaaDoor
