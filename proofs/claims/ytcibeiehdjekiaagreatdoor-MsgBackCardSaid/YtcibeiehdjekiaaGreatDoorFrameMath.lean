/-
  The plain law of frames (reeve's layer 4): a frame is opened again; frames one behind the other; a frame that is cut off.
-/
import Derived.Test.YtcibeiehdjekiaaGreatDoorFrameBase
namespace Go.Proofs.YtcibeiehdjekiaaGreatDoor
open Go.RowKit
set_option linter.unusedVariables false
set_option linter.unusedSimpArgs false

theorem ext_none (a : ByteArray) (i j : Nat) (h : a.size ≤ i) : a.extract i j = ByteArray.empty := by
  apply ByteArray.ext
  apply Array.eq_empty_of_size_eq_zero
  show (a.extract i j).size = 0
  rw [ByteArray.size_extract]; omega
theorem sealB_eq (b : ByteArray) : sealB b = str [82] ++ longB b ++ b ++ sumB (longB b ++ b) := by
  unfold sealB; simp only [ByteArray.append_assoc]
/-- A text that begins with the mark and a length. -/
theorem head_facts (b : ByteArray) (hb : b.size ≤ 200) (t : ByteArray) : Lib.hasPrefix (str [82] ++ longB b ++ t).data.toList [82] = true ∧ (str [82] ++ longB b ++ t).extract 1 3 = longB b ∧ openN (str [82] ++ longB b ++ t) = b.size ∧ (str [82] ++ longB b ++ t).size = t.size + 3 := by
  have hl := longB_size b
  have h1 : (str [82]).size = 1 := rfl
  have hsz : (str [82] ++ longB b ++ t).size = t.size + 3 := by simp only [ByteArray.size_append, hl, h1]; omega
  have hx : (str [82] ++ longB b ++ t).extract 1 3 = longB b := by
    rw [ByteArray.append_assoc, ByteArray.extract_append, h1]
    rw [show (str [82]).extract 1 3 = ByteArray.empty from by rfl, ByteArray.empty_append]
    rw [ByteArray.extract_append, hl]
    show (longB b).extract 0 2 ++ t.extract (0 - 2) (2 - 2) = _
    rw [show (longB b).extract 0 2 = longB b by rw [← hl]; exact ByteArray.extract_zero_size]
    simp
  refine ⟨?_, hx, ?_, hsz⟩
  · rw [Lib.hasPrefix, List.isPrefixOf_iff_prefix]
    exact ⟨(longB b ++ t).data.toList, by simp [str]⟩
  · unfold openN
    rw [hx]
    unfold longB
    rw [show rest (str (Oct.fixB b.size 2)) 0 = Oct.fixB b.size 2 by simp [rest, str], List.take_of_length_le (by rw [Oct.fixB_length]; omega), Oct.numFrom_fixB]
    omega
/-- A frame is opened again, whatever stands behind it. -/
theorem open_seal (b : ByteArray) (hb : b.size ≤ 200) (t : ByteArray) : openF (sealB b ++ t) = (b, b.size + 7, 0) := by
  have hl := longB_size b
  have h1 : (str [82]).size = 1 := rfl
  have e : sealB b ++ t = str [82] ++ longB b ++ (b ++ sumB (longB b ++ b) ++ t) := by rw [sealB_eq]; simp only [ByteArray.append_assoc]
  have hss := sumB_size (longB b ++ b)
  obtain ⟨f1, f2, f3, f4⟩ := head_facts b hb (b ++ sumB (longB b ++ b) ++ t)
  rw [← e] at f1 f2 f3 f4
  have hz : (sealB b ++ t).size = b.size + 7 + t.size := by rw [ByteArray.size_append, sealB_size]
  have hA : (str [82] ++ longB b).size = 3 := by rw [ByteArray.size_append, hl]; rfl
  have x1 : (sealB b ++ t).extract 3 (b.size + 3) = b := by
    rw [e, ByteArray.extract_append, hA]
    rw [show (str [82] ++ longB b).extract 3 (b.size + 3) = ByteArray.empty from ext_none _ _ _ (by omega)]
    rw [ByteArray.empty_append, ByteArray.append_assoc, ByteArray.extract_append]
    show b.extract 0 (b.size + 3 - 3) ++ _ = b
    rw [Nat.add_sub_cancel, ByteArray.extract_zero_size, Nat.sub_self, Nat.sub_self]
    simp
  have x2 : (sealB b ++ t).extract 1 (b.size + 3) = longB b ++ b := by
    rw [← ext_add _ 1 3 (b.size + 3) (by omega) (by omega), f2, x1]
  have x3 : (sealB b ++ t).extract (b.size + 3) (b.size + 7) = sumB (longB b ++ b) := by
    have e2 : sealB b ++ t = (str [82] ++ longB b ++ b) ++ (sumB (longB b ++ b) ++ t) := by rw [sealB_eq]; simp only [ByteArray.append_assoc]
    have hB : (str [82] ++ longB b ++ b).size = b.size + 3 := by rw [ByteArray.size_append, hA]; omega
    rw [e2, ByteArray.extract_append, hB]
    rw [show (str [82] ++ longB b ++ b).extract (b.size + 3) (b.size + 7) = ByteArray.empty from ext_none _ _ _ (by omega)]
    rw [ByteArray.empty_append, ByteArray.extract_append, hss, Nat.sub_self, show b.size + 7 - (b.size + 3) = 4 by omega]
    show (sumB (longB b ++ b)).extract 0 4 ++ _ = _
    rw [← hss, ByteArray.extract_zero_size]
    simp
  unfold openF
  rw [if_neg (by rw [hz]; omega), if_neg (by rw [f1]; decide), if_neg (by rw [hz]; omega), f3, if_neg (by omega), if_neg (by rw [hz]; omega), x2, x3, if_pos rfl, x1]
/-- A frame that is cut off is none. -/
theorem open_torn (b : ByteArray) (hb : b.size ≤ 200) (c : Nat) (hc : c < b.size + 7) : (openF ((sealB b).extract 0 c)).2.2 ≠ 0 := by
  have hz : ((sealB b).extract 0 c).size = c := by rw [ByteArray.size_extract, sealB_size]; omega
  rcases openF_cases ((sealB b).extract 0 c) with ⟨er, he, _, h1⟩ | ⟨h1, h2, h3⟩
  · rw [h1]; show er ≠ 0; omega
  · exfalso
    rw [hz] at h3
    have hA : (str [82] ++ longB b).size = 3 := by rw [ByteArray.size_append, longB_size]; rfl
    have e : (sealB b).extract 0 c = str [82] ++ longB b ++ (b ++ sumB (longB b ++ b)).extract 0 (c - 3) := by
      rw [sealB_eq, ByteArray.append_assoc (a := str [82] ++ longB b), ByteArray.extract_append, hA]
      rw [show (str [82] ++ longB b).extract 0 c = str [82] ++ longB b by
        apply ByteArray.ext; apply Array.ext'
        rw [ByteArray.data_extract, Array.toList_extract, List.extract_eq_take_drop, List.drop_zero, Nat.sub_zero]
        exact List.take_of_length_le (by show (str [82] ++ longB b).size ≤ c; rw [hA]; omega)]
    obtain ⟨f1, f2, f3, f4⟩ := head_facts b hb ((b ++ sumB (longB b ++ b)).extract 0 (c - 3))
    rw [← e] at f3
    omega

/-- Frames one behind the other. -/
def frames : List ByteArray → ByteArray
  | [] => ByteArray.empty
  | b :: r => sealB b ++ frames r
theorem ext_behind (a b : ByteArray) : (a ++ b).extract a.size (a ++ b).size = b := by
  rw [ByteArray.extract_append, ByteArray.size_append, Nat.sub_self, Nat.add_sub_cancel_left, ByteArray.extract_zero_size]
  rw [show a.extract a.size (a.size + b.size) = ByteArray.empty from ext_none _ _ _ (by omega)]
  simp
theorem allG_frames (l : List ByteArray) : ∀ (P T : ByteArray), (∀ b ∈ l, b.size ≤ 200) → (openF T).2.2 ≠ 0 → allG (P ++ frames l ++ T) P.size = (l, P.size + (frames l).size) := by
  induction l with
  | nil =>
    intro P T _ hT
    have e : P ++ frames [] ++ T = P ++ T := by show P ++ ByteArray.empty ++ T = _; simp
    rw [e, allG_no (by rw [ext_behind]; exact hT)]
    rfl
  | cons b r ih =>
    intro P T hl hT
    have e : P ++ frames (b :: r) ++ T = P ++ (sealB b ++ (frames r ++ T)) := by show P ++ (sealB b ++ frames r) ++ T = _; simp only [ByteArray.append_assoc]
    have e2 : P ++ frames (b :: r) ++ T = P ++ sealB b ++ frames r ++ T := by show P ++ (sealB b ++ frames r) ++ T = _; simp only [ByteArray.append_assoc]
    have ho : openF ((P ++ frames (b :: r) ++ T).extract P.size (P ++ frames (b :: r) ++ T).size) = (b, b.size + 7, 0) := by
      rw [e, ext_behind]; exact open_seal b (hl b (by simp)) _
    rw [allG_ok (by rw [ho]), ho]
    have hs : P.size + (b.size + 7) = (P ++ sealB b).size := by rw [ByteArray.size_append, sealB_size]
    have := ih (P ++ sealB b) T (fun x hx => hl x (by simp [hx])) hT
    rw [← e2] at this
    show (b :: (allG (P ++ frames (b :: r) ++ T) (P.size + (b.size + 7))).1, _) = _
    rw [hs, this]
    show (b :: r, (P ++ sealB b).size + (frames r).size) = (b :: r, P.size + (sealB b ++ frames r).size)
    rw [ByteArray.size_append, ByteArray.size_append]
    congr 1
    omega
end Go.Proofs.YtcibeiehdjekiaaGreatDoor
