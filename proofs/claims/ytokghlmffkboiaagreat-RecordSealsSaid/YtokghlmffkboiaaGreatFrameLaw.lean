/-
  What Open and All compute (reeve's layer 4), as plain functions.
-/
import Derived.Test.YtokghlmffkboiaaGreatFrameWhole
import Derived.Test.YtokghlmffkboiaaGreatFrameSum
namespace Go.Proofs.YtokghlmffkboiaaGreat
open Go.RowKit
set_option linter.unusedVariables false
set_option linter.unusedSimpArgs false

/-- The length that a frame tells. -/
def openN (s : ByteArray) : Nat := Oct.numFrom 0 ((rest (s.extract 1 3) 0).take 2)
/-- The body of the frame with which bytes begin, how many bytes it has, and the error. -/
def openF (s : ByteArray) : ByteArray × Nat × Int :=
  if s.size = 0 then (⟨#[]⟩, 0, 3)
  else if Lib.hasPrefix s.data.toList [82] = false then (⟨#[]⟩, 0, 2)
  else if s.size < 3 then (⟨#[]⟩, 0, 3)
  else if 200 < openN s then (⟨#[]⟩, 0, 9)
  else if s.size < openN s + 7 then (⟨#[]⟩, 0, 3)
  else if s.extract (openN s + 3) (openN s + 7) = sumB (s.extract 1 (openN s + 3)) then (s.extract 3 (openN s + 3), openN s + 7, 0)
  else (⟨#[]⟩, 0, 4)
theorem openF_cases (s : ByteArray) : (∃ e : Int, 0 < e ∧ e ≤ 9 ∧ openF s = (⟨#[]⟩, 0, e)) ∨ (openF s = (s.extract 3 (openN s + 3), openN s + 7, 0) ∧ openN s ≤ 200 ∧ openN s + 7 ≤ s.size) := by
  unfold openF
  by_cases h1 : s.size = 0
  · rw [if_pos h1]; exact .inl ⟨_, by decide, by decide, rfl⟩
  rw [if_neg h1]
  by_cases h2 : Lib.hasPrefix s.data.toList [82] = false
  · rw [if_pos h2]; exact .inl ⟨_, by decide, by decide, rfl⟩
  rw [if_neg h2]
  by_cases h3 : s.size < 3
  · rw [if_pos h3]; exact .inl ⟨_, by decide, by decide, rfl⟩
  rw [if_neg h3]
  by_cases h4 : 200 < openN s
  · rw [if_pos h4]; exact .inl ⟨_, by decide, by decide, rfl⟩
  rw [if_neg h4]
  by_cases h5 : s.size < openN s + 7
  · rw [if_pos h5]; exact .inl ⟨_, by decide, by decide, rfl⟩
  rw [if_neg h5]
  by_cases h6 : s.extract (openN s + 3) (openN s + 7) = sumB (s.extract 1 (openN s + 3))
  · rw [if_pos h6]; exact .inr ⟨rfl, by omega, by omega⟩
  · rw [if_neg h6]; exact .inl ⟨_, by decide, by decide, rfl⟩
theorem openF_ok {s : ByteArray} (h : (openF s).2.2 = 0) : 7 ≤ (openF s).2.1 ∧ (openF s).2.1 ≤ s.size ∧ (openF s).2.1 ≤ 207 ∧ (openF s).1.size + 7 = (openF s).2.1 := by
  rcases openF_cases s with ⟨e, he, _, h1⟩ | ⟨h1, h2, h3⟩
  · rw [h1] at h; have h : e = 0 := h; omega
  · rw [h1]
    refine ⟨by simp, by simpa using h3, by simp; omega, ?_⟩
    show (s.extract 3 (openN s + 3)).size + 7 = openN s + 7
    rw [ByteArray.size_extract]; omega
theorem openF_errno (s : ByteArray) : 0 ≤ (openF s).2.2 ∧ (openF s).2.2 ≤ 9 := by
  rcases openF_cases s with ⟨e, he, h9, h1⟩ | ⟨h1, h2, h3⟩
  · rw [h1]; exact ⟨by simp; omega, by simpa using h9⟩
  · rw [h1]; exact ⟨by simp, by simp⟩

theorem frame_open (s : ByteArray) (hs : s.size ≤ maxLen) (w : World) : Calls Tryz.prog 41 #[.string s] w fun e w' => e = .returned (.tuple #[.string (openF s).1, .int .i64 (openF s).2.1, .int .i64 (openF s).2.2]) ∧ Below w.heap.size w w' := by
  unfold openF
  by_cases h1 : s.size = 0
  · rw [if_pos h1]
    have e : s = ⟨#[]⟩ := ByteArray.ext (Array.eq_empty_of_size_eq_zero h1)
    subst e
    refine (open_empty w).mono ?_
    rintro e w' ⟨rfl, hb⟩
    exact ⟨rfl, hb⟩
  rw [if_neg h1]
  by_cases h2 : Lib.hasPrefix s.data.toList [82] = false
  · rw [if_pos h2]
    refine (open_form s hs (by omega) h2 w).mono ?_
    rintro e w' ⟨rfl, hb⟩
    exact ⟨rfl, hb⟩
  rw [if_neg h2]
  have h2 : Lib.hasPrefix s.data.toList [82] = true := by simpa using h2
  by_cases h3 : s.size < 3
  · rw [if_pos h3]
    refine (open_short s hs (by omega) h2 h3 w).mono ?_
    rintro e w' ⟨rfl, hb⟩
    exact ⟨rfl, hb⟩
  rw [if_neg h3]
  by_cases h4 : 200 < openN s
  · rw [if_pos h4]
    refine (open_many s hs (by omega) h2 (by omega) (openN s) rfl h4 w).mono ?_
    rintro e w' ⟨rfl, hb⟩
    exact ⟨rfl, hb⟩
  rw [if_neg h4]
  by_cases h5 : s.size < openN s + 7
  · rw [if_pos h5]
    refine (open_cut s hs (by omega) h2 (by omega) (openN s) rfl (by omega) h5 w).mono ?_
    rintro e w' ⟨rfl, hb⟩
    exact ⟨rfl, hb⟩
  rw [if_neg h5]
  by_cases h6 : s.extract (openN s + 3) (openN s + 7) = sumB (s.extract 1 (openN s + 3))
  · rw [if_pos h6]
    refine (open_whole s hs (by omega) h2 (by omega) (openN s) rfl (by omega) (by omega) h6 w).mono ?_
    rintro e w' ⟨rfl, hb⟩
    exact ⟨rfl, hb⟩
  · rw [if_neg h6]
    refine (open_sum s hs (by omega) h2 (by omega) (openN s) rfl (by omega) (by omega) h6 w).mono ?_
    rintro e w' ⟨rfl, hb⟩
    exact ⟨rfl, hb⟩

/-- All bodies from a place on, and where they end. -/
def allG (s : ByteArray) (k : Nat) : List ByteArray × Nat :=
  if h : (openF (s.extract k s.size)).2.2 = 0 then
    ((openF (s.extract k s.size)).1 :: (allG s (k + (openF (s.extract k s.size)).2.1)).1, (allG s (k + (openF (s.extract k s.size)).2.1)).2)
  else ([], k)
termination_by s.size - k
decreasing_by
  all_goals
    have := openF_ok h
    have hz : (s.extract k s.size).size = min s.size s.size - k := ByteArray.size_extract
    omega
theorem allG_ok {s : ByteArray} {k : Nat} (h : (openF (s.extract k s.size)).2.2 = 0) : allG s k = ((openF (s.extract k s.size)).1 :: (allG s (k + (openF (s.extract k s.size)).2.1)).1, (allG s (k + (openF (s.extract k s.size)).2.1)).2) := by rw [allG, dif_pos h]
theorem allG_no {s : ByteArray} {k : Nat} (h : (openF (s.extract k s.size)).2.2 ≠ 0) : allG s k = ([], k) := by rw [allG, dif_neg h]
theorem allG_end (s : ByteArray) : allG s s.size = ([], s.size) := by
  apply allG_no
  have hz : (s.extract s.size s.size).size = 0 := by rw [ByteArray.size_extract]; omega
  unfold openF
  rw [if_pos hz]; decide

/-- The head of a frame, byte for byte. -/
theorem openN_eq (s : ByteArray) (h : 3 ≤ s.size) : openN s = s[1].toNat * 256 + s[2].toNat := by
  obtain ⟨⟨l⟩⟩ := s
  match l, h with
  | a :: b :: c :: t, h =>
    show Oct.numFrom 0 _ = b.toNat * 256 + c.toNat
    simp [rest, Oct.numFrom]
theorem prefix_eq (s : ByteArray) (h : 0 < s.size) : Lib.hasPrefix s.data.toList [82] = (s[0].toNat == 82) := by
  obtain ⟨⟨l⟩⟩ := s
  match l, h with
  | a :: t, h =>
    show List.isPrefixOf [82] (a :: t) = (a.toNat == 82)
    have e : ((82 : UInt8) == a) = (a.toNat == 82) := by
      rw [Bool.eq_iff_iff, beq_iff_eq, beq_iff_eq]
      exact ⟨fun e => by rw [← e]; rfl, fun e => by apply UInt8.toNat.inj; rw [e]; rfl⟩
    simp [List.isPrefixOf, e]
theorem ext_add (s : ByteArray) (a b c : Nat) (h1 : a ≤ b) (h2 : b ≤ c) : s.extract a b ++ s.extract b c = s.extract a c := by
  rw [ByteArray.extract_append_extract, Nat.min_eq_left h1, Nat.max_eq_right h2]
theorem ext13 (s : ByteArray) (h : 3 ≤ s.size) : s.extract 1 3 = str [s[1], s[2]] := by
  obtain ⟨⟨l⟩⟩ := s
  match l, h with
  | a :: b :: c :: t, h => 
    apply ByteArray.ext
    apply Array.ext'
    rw [ByteArray.data_extract, Array.toList_extract, List.extract_eq_take_drop]
    rfl
theorem ext01 (s : ByteArray) (h : Lib.hasPrefix s.data.toList [82] = true) : str [82] = s.extract 0 1 := by
  obtain ⟨t, ht⟩ := List.isPrefixOf_iff_prefix.1 h
  apply ByteArray.ext
  apply Array.ext'
  rw [ByteArray.data_extract, Array.toList_extract, List.extract_eq_take_drop, ← ht]
  rfl
theorem fix_two (b c : UInt8) : Oct.fixB (b.toNat * 256 + c.toNat) 2 = [b, c] := by
  have hb := b.toNat_lt
  have hc := c.toNat_lt
  rw [Oct.fixB_cons, Oct.fixB_cons]
  have i1 : UInt8.ofNat ((b.toNat * 256 + c.toNat) / 256 ^ 1 % 256) = b := by
    apply UInt8.toNat.inj; rw [UInt8.toNat_ofNat']; omega
  have i2 : UInt8.ofNat ((b.toNat * 256 + c.toNat) / 256 ^ 0 % 256) = c := by
    apply UInt8.toNat.inj; rw [UInt8.toNat_ofNat']; omega
  rw [i1, i2]
  rfl
theorem seal_eq (s : ByteArray) (hx : Lib.hasPrefix s.data.toList [82] = true) (h3 : 3 ≤ s.size) (hcut : openN s + 7 ≤ s.size) :
    (sealB (s.extract 3 (openN s + 3)) = s.extract 0 (openN s + 7)) ↔ s.extract (openN s + 3) (openN s + 7) = sumB (s.extract 1 (openN s + 3)) := by
  have hN := openN_eq s h3
  have e0 := ext01 s hx
  have hbs : (s.extract 3 (openN s + 3)).size = openN s := by rw [ByteArray.size_extract]; omega
  have e1 : longB (s.extract 3 (openN s + 3)) = s.extract 1 3 := by
    unfold longB
    rw [hbs, hN, ext13 s h3, fix_two]
  unfold sealB
  rw [e1, ext_add s 1 3 (openN s + 3) (by omega) (by omega), e0, ← ByteArray.append_assoc, ext_add s 0 1 (openN s + 3) (by omega) (by omega), ← ext_add s 0 (openN s + 3) (openN s + 7) (by omega) (by omega)]
  constructor
  · intro h
    exact (ByteArray.append_right_inj _ |>.1 h).symm
  · intro h; rw [h]
end Go.Proofs.YtokghlmffkboiaaGreat
