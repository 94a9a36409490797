/-
  Vectors (reeve's layer 8): the plain laws.
-/
import Derived.Test.YtogjckengmkfiaaDoorResText
namespace Go.Proofs.YtogjckengmkfiaaDoor
open Go.RowKit
set_option linter.unusedVariables false
set_option linter.unusedSimpArgs false

theorem wrap64_small {x : Int} (h1 : -9223372036854775808 ≤ x) (h2 : x ≤ 9223372036854775807) : wrap64 x = x := by unfold wrap64; omega
theorem resB_three (a0 a1 a2 : Int) : resB [a0, a1, a2] = true ↔ (0 ≤ a0 ∧ a0 ≤ 1048576) ∧ (0 ≤ a1 ∧ a1 ≤ 1048576) ∧ (0 ≤ a2 ∧ a2 ≤ 1048576) := by
  unfold resB
  simp only [Bool.and_eq_true, inR_iff]
  rfl
theorem fitsB_iff (a0 a1 a2 b0 b1 b2 : Int) : fitsB [a0, a1, a2] [b0, b1, b2] = true ↔ a0 ≤ b0 ∧ a1 ≤ b1 ∧ a2 ≤ b2 := by
  rw [fitsB_three]; simp
theorem zipW_three (f : Int → Int → Int) (a0 a1 a2 b0 b1 b2 : Int) : List.zipWith f [a0, a1, a2] [b0, b1, b2] = [f a0 b0, f a1 b1, f a2 b2] := rfl
theorem bothR_yes (f : Int → Int → Int) {a b : List Int} (h1 : resB a = true) (h2 : resB b = true) (h3 : resB (List.zipWith f a b) = true) : bothR f a b = (List.zipWith f a b, true) := by unfold bothR; rw [if_pos ⟨h1, h2, h3⟩]
theorem bothR_no (f : Int → Int → Int) {a b : List Int} (h : ¬ (resB a = true ∧ resB b = true ∧ resB (List.zipWith f a b) = true)) : bothR f a b = ([0, 0, 0], false) := by unfold bothR; rw [if_neg h]
theorem bothR_cases (f : Int → Int → Int) (a b : List Int) : (resB a = true ∧ resB b = true ∧ resB (List.zipWith f a b) = true ∧ bothR f a b = (List.zipWith f a b, true)) ∨ bothR f a b = ([0, 0, 0], false) := by
  by_cases h : resB a = true ∧ resB b = true ∧ resB (List.zipWith f a b) = true
  · exact .inl ⟨h.1, h.2.1, h.2.2, bothR_yes f h.1 h.2.1 h.2.2⟩
  · exact .inr (bothR_no f h)
theorem sub_fits {a0 a1 a2 b0 b1 b2 : Int} (ha : resB [a0, a1, a2] = true) (hb : resB [b0, b1, b2] = true) : fitsB [b0, b1, b2] [a0, a1, a2] = resB (List.zipWith subW [a0, a1, a2] [b0, b1, b2]) := by
  rw [Bool.eq_iff_iff, zipW_three, fitsB_iff, resB_three]
  rw [resB_three] at ha hb
  unfold subW
  rw [wrap64_small (by omega) (by omega), wrap64_small (by omega) (by omega), wrap64_small (by omega) (by omega)]
  omega
theorem subR_both (a b : List Int) (ha : a.length = 3) (hb : b.length = 3) : subR a b = bothR subW a b := by
  obtain ⟨a0, a1, a2, rfl⟩ := three_of ha
  obtain ⟨b0, b1, b2, rfl⟩ := three_of hb
  unfold subR bothR
  by_cases h1 : resB [a0, a1, a2] = true
  · by_cases h2 : resB [b0, b1, b2] = true
    · rw [sub_fits h1 h2]
    · rw [if_neg (fun h => h2 h.2.1), if_neg (fun h => h2 h.2.1)]
  · rw [if_neg (fun h => h1 h.1), if_neg (fun h => h1 h.1)]
/-- What is added is taken off again. -/
theorem add_sub (a b : List Int) (ha : a.length = 3) (hb : b.length = 3) (h : (bothR addW a b).2 = true) : bothR subW (bothR addW a b).1 b = (a, true) := by
  obtain ⟨a0, a1, a2, rfl⟩ := three_of ha
  obtain ⟨b0, b1, b2, rfl⟩ := three_of hb
  rcases bothR_cases addW [a0, a1, a2] [b0, b1, b2] with ⟨h1, h2, h3, h4⟩ | h4
  · rw [h4]
    show bothR subW (List.zipWith addW [a0, a1, a2] [b0, b1, b2]) [b0, b1, b2] = _
    have e : List.zipWith subW (List.zipWith addW [a0, a1, a2] [b0, b1, b2]) [b0, b1, b2] = [a0, a1, a2] := by
      rw [zipW_three, zipW_three]
      rw [zipW_three] at h3
      rw [resB_three] at h1 h2 h3
      unfold addW at *
      unfold subW
      rw [wrap64_small (x := a0 + b0) (by omega) (by omega), wrap64_small (x := a1 + b1) (by omega) (by omega), wrap64_small (x := a2 + b2) (by omega) (by omega), wrap64_small (by omega) (by omega), wrap64_small (by omega) (by omega), wrap64_small (by omega) (by omega)]
      rw [show a0 + b0 - b0 = a0 by omega, show a1 + b1 - b1 = a1 by omega, show a2 + b2 - b2 = a2 by omega]
    rw [bothR_yes subW h3 h2 (by rw [e]; exact h1), e]
  · rw [h4] at h; cases h
/-- What is left, and what was taken off, come together. -/
theorem sub_add (a b : List Int) (ha : a.length = 3) (hb : b.length = 3) (h : (bothR subW a b).2 = true) : bothR addW (bothR subW a b).1 b = (a, true) := by
  obtain ⟨a0, a1, a2, rfl⟩ := three_of ha
  obtain ⟨b0, b1, b2, rfl⟩ := three_of hb
  rcases bothR_cases subW [a0, a1, a2] [b0, b1, b2] with ⟨h1, h2, h3, h4⟩ | h4
  · rw [h4]
    show bothR addW (List.zipWith subW [a0, a1, a2] [b0, b1, b2]) [b0, b1, b2] = _
    have e : List.zipWith addW (List.zipWith subW [a0, a1, a2] [b0, b1, b2]) [b0, b1, b2] = [a0, a1, a2] := by
      rw [zipW_three, zipW_three]
      rw [zipW_three] at h3
      rw [resB_three] at h1 h2 h3
      unfold subW at *
      unfold addW
      rw [wrap64_small (x := a0 - b0) (by omega) (by omega), wrap64_small (x := a1 - b1) (by omega) (by omega), wrap64_small (x := a2 - b2) (by omega) (by omega), wrap64_small (by omega) (by omega), wrap64_small (by omega) (by omega), wrap64_small (by omega) (by omega)]
      rw [show a0 - b0 + b0 = a0 by omega, show a1 - b1 + b1 = a1 by omega, show a2 - b2 + b2 = a2 by omega]
    rw [bothR_yes addW h3 h2 (by rw [e]; exact h1), e]
  · rw [h4] at h; cases h
theorem fits_can (a b : List Int) (ha : a.length = 3) (hb : b.length = 3) (h1 : resB a = true) (h2 : resB b = true) : fitsB b a = (bothR subW a b).2 := by
  obtain ⟨a0, a1, a2, rfl⟩ := three_of ha
  obtain ⟨b0, b1, b2, rfl⟩ := three_of hb
  rw [sub_fits h1 h2]
  unfold bothR
  by_cases h3 : resB (List.zipWith subW [a0, a1, a2] [b0, b1, b2]) = true
  · rw [if_pos ⟨h1, h2, h3⟩, h3]
  · rw [if_neg (fun h => h3 h.2.2)]; exact eq_false_of_ne_true h3
theorem lessB_three (a0 a1 a2 b0 b1 b2 : Int) : lessB [a0, a1, a2] [b0, b1, b2] = true ↔ a0 < b0 ∨ a0 = b0 ∧ (a1 < b1 ∨ a1 = b1 ∧ a2 < b2) := by
  show (if a0 ≠ b0 then decide (a0 < b0) else if a1 ≠ b1 then decide (a1 < b1) else if a2 ≠ b2 then decide (a2 < b2) else false) = true ↔ _
  split
  · rw [decide_eq_true_iff]; omega
  · split
    · rw [decide_eq_true_iff]; omega
    · split
      · rw [decide_eq_true_iff]; omega
      · simp; omega
theorem less_self (a : List Int) (ha : a.length = 3) : lessB a a = false := by
  obtain ⟨a0, a1, a2, rfl⟩ := three_of ha
  rw [← Bool.not_eq_true, lessB_three]; omega
theorem less_one (a b : List Int) (ha : a.length = 3) (hb : b.length = 3) (h : a ≠ b) : (lessB a b = true ∧ lessB b a = false) ∨ (lessB a b = false ∧ lessB b a = true) := by
  obtain ⟨a0, a1, a2, rfl⟩ := three_of ha
  obtain ⟨b0, b1, b2, rfl⟩ := three_of hb
  rw [← Bool.not_eq_true, ← Bool.not_eq_true, lessB_three, lessB_three]
  have : ¬ (a0 = b0 ∧ a1 = b1 ∧ a2 = b2) := by rintro ⟨rfl, rfl, rfl⟩; exact h rfl
  omega
theorem less_trans (a b c : List Int) (ha : a.length = 3) (hb : b.length = 3) (hc : c.length = 3) (h1 : lessB a b = true) (h2 : lessB b c = true) : lessB a c = true := by
  obtain ⟨a0, a1, a2, rfl⟩ := three_of ha
  obtain ⟨b0, b1, b2, rfl⟩ := three_of hb
  obtain ⟨c0, c1, c2, rfl⟩ := three_of hc
  rw [lessB_three] at *
  omega
theorem most_three (a0 a1 a2 b0 b1 b2 : Int) : mostL [a0, a1, a2] [b0, b1, b2] = [max a0 b0, max a1 b1, max a2 b2] := rfl
theorem most_fits (a b : List Int) (ha : a.length = 3) (hb : b.length = 3) : fitsB a (mostL a b) = true ∧ fitsB b (mostL a b) = true := by
  obtain ⟨a0, a1, a2, rfl⟩ := three_of ha
  obtain ⟨b0, b1, b2, rfl⟩ := three_of hb
  rw [most_three, fitsB_iff, fitsB_iff]; omega
theorem most_least (a b c : List Int) (ha : a.length = 3) (hb : b.length = 3) (hc : c.length = 3) (h1 : fitsB a c = true) (h2 : fitsB b c = true) : fitsB (mostL a b) c = true := by
  obtain ⟨a0, a1, a2, rfl⟩ := three_of ha
  obtain ⟨b0, b1, b2, rfl⟩ := three_of hb
  obtain ⟨c0, c1, c2, rfl⟩ := three_of hc
  rw [most_three]
  rw [fitsB_iff] at *
  omega
theorem most_comm (a b : List Int) (ha : a.length = 3) (hb : b.length = 3) : mostL a b = mostL b a := by
  obtain ⟨a0, a1, a2, rfl⟩ := three_of ha
  obtain ⟨b0, b1, b2, rfl⟩ := three_of hb
  rw [most_three, most_three, Int.max_comm a0, Int.max_comm a1, Int.max_comm a2]
theorem most_self (a : List Int) (ha : a.length = 3) : mostL a a = a := by
  obtain ⟨a0, a1, a2, rfl⟩ := three_of ha
  rw [most_three, Int.max_self, Int.max_self, Int.max_self]
/-- Cut at a sign that no piece holds, a text comes back as its pieces. -/
theorem split_run (x : List UInt8) (h : ∀ c ∈ x, c ≠ 44) (r : List UInt8) : splitC 44 (x ++ 44 :: r) = x :: splitC 44 r := by
  induction x with
  | nil => simp [splitC]
  | cons y t ih =>
    have hy := h y (List.mem_cons_self ..)
    rw [List.cons_append, splitC, if_neg hy, ih (fun c hc => h c (List.mem_cons_of_mem _ hc))]
    rfl
theorem split_none (x : List UInt8) (h : ∀ c ∈ x, c ≠ 44) : splitC 44 x = [x] := by
  induction x with
  | nil => rfl
  | cons y t ih =>
    have hy := h y (List.mem_cons_self ..)
    rw [splitC, if_neg hy, ih (fun c hc => h c (List.mem_cons_of_mem _ hc))]
    rfl
theorem join_two (x y : List UInt8) (r : List (List UInt8)) : Lib.join (x :: y :: r) [44] = x ++ 44 :: Lib.join (y :: r) [44] := by
  simp [Lib.join, Lib.joinTail]
theorem split_join (l : List (List UInt8)) (hne : l ≠ []) (h : ∀ x ∈ l, ∀ c ∈ x, c ≠ 44) : splitC 44 (Lib.join l [44]) = l := by
  induction l with
  | nil => exact absurd rfl hne
  | cons x r ih =>
    cases r with
    | nil => rw [Lib.join_one, split_none x (h x (List.mem_cons_self ..))]
    | cons y t => rw [join_two, split_run x (h x (List.mem_cons_self ..)), ih (by simp) (fun z hz => h z (List.mem_cons_of_mem _ hz))]
theorem itoa_no_comma (n : Int) : ∀ c ∈ Lib.itoa n, c ≠ 44 := by
  intro c hc
  obtain ⟨i, hi⟩ := List.mem_iff_getElem?.1 hc
  rcases itoa_at n i c hi with ⟨_, h⟩ | h
  · rw [h]; decide
  · intro e; rw [e] at h; revert h; decide
theorem allV_itoa (ns : List Int) (h : ∀ n ∈ ns, inI n) : allV (ns.map Lib.itoa) = some ns := by
  induction ns with
  | nil => rfl
  | cons n r ih =>
    rw [List.map_cons]
    unfold allV
    rw [decV_itoa n (h n (List.mem_cons_self ..)), ih (fun m hm => h m (List.mem_cons_of_mem _ hm))]
theorem listR_listL (ns : List Int) (hne : ns ≠ []) (h : ∀ n ∈ ns, inI n) : listR (listL ns) ns.length = (ns, 0) := by
  have e : splitC 44 (listL ns) = ns.map Lib.itoa := split_join _ (by simpa using hne) (by
    intro x hx c hc
    obtain ⟨n, _, rfl⟩ := List.mem_map.1 hx
    exact itoa_no_comma n c hc)
  unfold listR
  rw [e, if_neg (by simp), allV_itoa ns h]
theorem resP_listL (a : List Int) (ha : a.length = 3) (h : ∀ n ∈ a, inI n) : resP (listL a) = (a, 0) := by
  refine resP_yes ?_
  have := listR_listL a (by intro e; rw [e] at ha; cases ha) h
  rw [ha] at this
  exact this
end Go.Proofs.YtogjckengmkfiaaDoor
