/-
  Frames that are cut off anywhere, or spoilt (reeve's layer 4): the plain law.
-/
import Derived.Test.YtokghlmffkboiaaGreatFrameTornMath
namespace Go.Proofs.YtokghlmffkboiaaGreat
open Go.RowKit
set_option linter.unusedVariables false
set_option linter.unusedSimpArgs false

/-- A text that has a frame's form, whatever its sum is. -/
theorem open_gen (b c d t : ByteArray) (hb : b.size ≤ 200) (hc : c.size = b.size) (hd : d.size = 4) (hne : d ≠ sumB (longB b ++ c)) : openF (str [82] ++ longB b ++ (c ++ d ++ t)) = (⟨#[]⟩, 0, 4) := by
  have hl := longB_size b
  obtain ⟨f1, f2, f3, f4⟩ := head_facts b hb (c ++ d ++ t)
  have hz : (str [82] ++ longB b ++ (c ++ d ++ t)).size = b.size + 7 + t.size := by rw [f4, ByteArray.size_append, ByteArray.size_append]; omega
  have hA : (str [82] ++ longB b).size = 3 := by rw [ByteArray.size_append, hl]; rfl
  have x1 : (str [82] ++ longB b ++ (c ++ d ++ t)).extract 3 (b.size + 3) = c := by
    rw [ByteArray.extract_append, hA]
    rw [show (str [82] ++ longB b).extract 3 (b.size + 3) = ByteArray.empty from ext_none _ _ _ (by omega)]
    rw [ByteArray.empty_append, ByteArray.append_assoc, ByteArray.extract_append]
    show c.extract 0 (b.size + 3 - 3) ++ _ = c
    rw [Nat.add_sub_cancel, ← hc, ByteArray.extract_zero_size, Nat.sub_self, Nat.sub_self]
    simp
  have x2 : (str [82] ++ longB b ++ (c ++ d ++ t)).extract 1 (b.size + 3) = longB b ++ c := by
    rw [← ext_add _ 1 3 (b.size + 3) (by omega) (by omega), f2, x1]
  have x3 : (str [82] ++ longB b ++ (c ++ d ++ t)).extract (b.size + 3) (b.size + 7) = d := by
    have e2 : str [82] ++ longB b ++ (c ++ d ++ t) = (str [82] ++ longB b ++ c) ++ (d ++ t) := by simp only [ByteArray.append_assoc]
    have hB : (str [82] ++ longB b ++ c).size = b.size + 3 := by rw [ByteArray.size_append, hA]; omega
    rw [e2, ByteArray.extract_append, hB]
    rw [show (str [82] ++ longB b ++ c).extract (b.size + 3) (b.size + 7) = ByteArray.empty from ext_none _ _ _ (by omega)]
    rw [ByteArray.empty_append, ByteArray.extract_append, Nat.sub_self, show b.size + 7 - (b.size + 3) = 4 by omega]
    rw [← hd, ByteArray.extract_zero_size]
    simp
  unfold openF
  rw [if_neg (by rw [hz]; omega), if_neg (by rw [f1]; decide), if_neg (by rw [hz]; omega), f3, if_neg (by omega), if_neg (by rw [hz]; omega), x2, x3, if_neg hne]
/-- A frame with a byte turned, one that is none of its length's. -/
theorem open_spoilt (b : ByteArray) (hb : b.size ≤ 200) (t : ByteArray) (j : Nat) (hj : j < b.size + 7) (h1 : j ≠ 1) (h2 : j ≠ 2) (v : UInt8) (hv : ∀ h, v ≠ (sealB b)[j]'h) : (openF (setB (sealB b) j v ++ t)).2.2 ≠ 0 := by
  have hl := longB_size b
  have hA : (str [82] ++ longB b).size = 3 := by rw [ByteArray.size_append, hl]; rfl
  have hss := sumB_size (longB b ++ b)
  have hj' : j < (sealB b).size := by rw [sealB_size]; exact hj
  have hne := setB_ne (sealB b) j hj' v (hv hj')
  have e : sealB b = str [82] ++ longB b ++ (b ++ sumB (longB b ++ b)) := by rw [sealB_eq]; simp only [ByteArray.append_assoc]
  by_cases h0 : j = 0
  · subst h0
    have hz : (setB (sealB b) 0 v ++ t).size = b.size + 7 + t.size := by rw [ByteArray.size_append, setB_size, sealB_size]
    have hv82 : v ≠ 82 := by
      intro h
      apply hne
      have e3 : sealB b = str [82] ++ (longB b ++ (b ++ sumB (longB b ++ b))) := by rw [e]; simp only [ByteArray.append_assoc]
      rw [e3, setB_left _ _ 0 v (by show 0 < 1; decide), h]
      rfl
    have hp : Lib.hasPrefix (setB (sealB b) 0 v ++ t).data.toList [82] = false := by
      have e3 : sealB b = str [82] ++ (longB b ++ (b ++ sumB (longB b ++ b))) := by rw [e]; simp only [ByteArray.append_assoc]
      rw [e3, setB_left _ _ 0 v (by show 0 < 1; decide)]
      show Lib.hasPrefix ((str [v] ++ (longB b ++ (b ++ sumB (longB b ++ b)))) ++ t).data.toList [82] = false
      have : ((str [v] ++ (longB b ++ (b ++ sumB (longB b ++ b)))) ++ t).data.toList = v :: (((longB b ++ (b ++ sumB (longB b ++ b)))) ++ t).data.toList := by simp [str]
      rw [this, Lib.hasPrefix]
      simp only [List.isPrefixOf, Bool.and_true]
      have : ((82 : UInt8) == v) = false := by rw [beq_eq_false_iff_ne]; exact fun h => hv82 h.symm
      rw [this]
    unfold openF
    rw [if_neg (by rw [hz]; omega), if_pos hp]
    decide
  have hr : setB (sealB b) j v = str [82] ++ longB b ++ setB (b ++ sumB (longB b ++ b)) (j - 3) v := by rw [e, setB_right _ _ j v (by rw [hA]; omega), hA]
  by_cases hjb : j - 3 < b.size
  · have hs : setB (b ++ sumB (longB b ++ b)) (j - 3) v = setB b (j - 3) v ++ sumB (longB b ++ b) := setB_left _ _ _ _ hjb
    have hvb : v ≠ b[j - 3] := by
      intro h
      have hh : setB b (j - 3) v = b := by
        apply ByteArray.ext
        show b.data.setIfInBounds (j - 3) v = b.data
        rw [h]
        apply Array.ext'
        rw [Array.toList_setIfInBounds]
        exact List.set_getElem_self (h := hjb)
      exact hne (by rw [hr, hs, hh, ← e])
    rw [hr, hs, ByteArray.append_assoc]
    rw [open_gen b (setB b (j - 3) v) (sumB (longB b ++ b)) t hb (setB_size _ _ _) hss ?_]
    · decide
    · have hq : setB (longB b ++ b) (j - 1) v = longB b ++ setB b (j - 3) v := by rw [setB_right _ _ _ v (by rw [hl]; omega), hl]; rfl
      rw [← hq]
      have hlt : j - 1 < (longB b ++ b).size := by rw [ByteArray.size_append, hl]; omega
      refine sumB_turn (longB b ++ b) (j - 1) hlt v (fun h => hvb ?_)
      rw [h, ByteArray.getElem_append_right (by rw [hl]; omega)]
      congr 1
  · have hs : setB (b ++ sumB (longB b ++ b)) (j - 3) v = b ++ setB (sumB (longB b ++ b)) (j - 3 - b.size) v := setB_right _ _ _ _ (by omega)
    rw [hr, hs, ByteArray.append_assoc]
    rw [open_gen b b (setB (sumB (longB b ++ b)) (j - 3 - b.size) v) t hb rfl (by rw [setB_size, hss]) ?_]
    · decide
    · intro h
      exact hne (by rw [hr, hs, h, ← e])
end Go.Proofs.YtokghlmffkboiaaGreat
