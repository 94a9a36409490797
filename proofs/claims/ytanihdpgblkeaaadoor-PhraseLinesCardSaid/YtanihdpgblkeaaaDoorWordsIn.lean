/-
  Texts that came in, as a row; how long their line and their text are.
-/
import Derived.Test.YtanihdpgblkeaaaDoorAwake06
namespace Go.Proofs.YtanihdpgblkeaaaDoor
open Go.RowKit
set_option linter.unusedVariables false
set_option linter.unusedSimpArgs false

theorem isStrs_row {w : World} {a : Option Addr} {len cap : Nat} {zs : List ByteArray} (h : IsStrs w a len cap zs) : ∃ L : List (List UInt8), RowS w (.slice a len cap) (L.map strL) ∧ L.length = len ∧ len ≤ maxLen ∧ ∀ x ∈ L, x.length ≤ maxLen := by
  rcases isStrs_cases h with rfl | ⟨b, off, rfl, h0, h1, h2, h3, h4, h5, h6⟩
  · exact ⟨[], .inl ⟨_, _, rfl, rfl⟩, rfl, Nat.zero_le _, by simp⟩
  · have hm : ((zs.take len).map (·.data.toList)).map strL = zs.take len := by
      rw [List.map_map]
      conv => rhs; rw [← List.map_id (zs.take len)]
      apply List.map_congr_left
      intro x _
      exact strL_of x
    have hl : ((zs.take len).map (·.data.toList)).length = len := by rw [List.length_map, List.length_take]; omega
    refine ⟨(zs.take len).map (·.data.toList), ?_, hl, h1, ?_⟩
    · rw [hm]
      have hz : (zs.take len).length = len := by rw [List.length_take]; omega
      refine .inr ⟨b, off, cap, by rw [hz], h3, fun j x hj => ?_, by rw [hz]; exact h2⟩
      have hjl : j < len := by have := (List.getElem?_eq_some_iff.1 hj).1; rw [hz] at this; exact this
      rw [h4 j hjl]
      rw [List.getElem?_take_of_lt hjl] at hj
      rw [List.getD_eq_getElem?_getD, hj]; rfl
    · intro x hx
      rw [List.mem_map] at hx
      obtain ⟨s, hs, rfl⟩ := hx
      obtain ⟨j, hj, rfl⟩ := List.getElem_of_mem hs
      have hjl : j < len := by rw [List.length_take] at hj; omega
      have := h5 j hjl
      rw [List.getD_eq_getElem?_getD] at this
      rw [List.getElem_take]
      rw [List.getElem?_eq_getElem (by rw [List.length_take] at hj; omega)] at this
      rw [← Lib.size_eq]
      exact this
theorem lens_le (l : List (List UInt8)) (h : ∀ x ∈ l, x.length ≤ 100) : Lib.lens l ≤ 100 * l.length := by
  induction l with
  | nil => simp [Lib.lens]
  | cons x r ih =>
    have h1 := h x (by simp)
    have h2 := ih (fun y hy => h y (by simp [hy]))
    simp only [Lib.lens, List.map_cons, List.sum_cons, List.length_cons] at h2 ⊢
    omega
theorem join_le (l : List (List UInt8)) (h : ∀ x ∈ l, x.length ≤ 100) : (Lib.join l [32]).length ≤ 101 * l.length := by
  cases l with
  | nil => simp [Lib.join_nil]
  | cons x r =>
    have h1 := h x (by simp)
    have h2 := lens_le r (fun y hy => h y (by simp [hy]))
    rw [Lib.join_cons, List.length_append, Lib.joinTail_length]
    simp only [List.length_cons, List.length_nil]
    omega
theorem text_le (l : List (List UInt8)) (h : ∀ x ∈ l, x.length ≤ 100) : (textL l).length ≤ 101 * l.length := by
  induction l with
  | nil => simp [textL]
  | cons x r ih =>
    have h1 := h x (by simp)
    have h2 := ih (fun y hy => h y (by simp [hy]))
    have e : textL (x :: r) = x ++ [10] ++ textL r := by simp [textL]
    rw [e, List.length_append, List.length_append]
    simp only [List.length_cons, List.length_nil]
    omega
end Go.Proofs.YtanihdpgblkeaaaDoor
