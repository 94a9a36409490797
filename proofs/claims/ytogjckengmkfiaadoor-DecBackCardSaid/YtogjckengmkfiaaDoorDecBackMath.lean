/-
  Numbers and their texts (reeve's layer 5): the plain laws; numbers that came in, as a row.
-/
import Derived.Test.YtogjckengmkfiaaDoorDecJoin
import Derived.Test.YtogjckengmkfiaaDoorHexMath
namespace Go.Proofs.YtogjckengmkfiaaDoor
open Go.RowKit
set_option linter.unusedVariables false
set_option linter.unusedSimpArgs false

/-- Cut at a sign that no piece holds, a text comes back as its pieces. -/
theorem split_run_d (x : List UInt8) (h : ∀ c ∈ x, c ≠ 44) (r : List UInt8) : splitC 44 (x ++ 44 :: r) = x :: splitC 44 r := by
  induction x with
  | nil => simp [splitC]
  | cons y t ih =>
    have hy := h y (List.mem_cons_self ..)
    rw [List.cons_append, splitC, if_neg hy, ih (fun c hc => h c (List.mem_cons_of_mem _ hc))]
    rfl
theorem split_none_d (x : List UInt8) (h : ∀ c ∈ x, c ≠ 44) : splitC 44 x = [x] := by
  induction x with
  | nil => rfl
  | cons y t ih =>
    have hy := h y (List.mem_cons_self ..)
    rw [splitC, if_neg hy, ih (fun c hc => h c (List.mem_cons_of_mem _ hc))]
    rfl
theorem join_two_d (x y : List UInt8) (r : List (List UInt8)) : Lib.join (x :: y :: r) [44] = x ++ 44 :: Lib.join (y :: r) [44] := by
  simp [Lib.join, Lib.joinTail]
theorem split_join_d (l : List (List UInt8)) (hne : l ≠ []) (h : ∀ x ∈ l, ∀ c ∈ x, c ≠ 44) : splitC 44 (Lib.join l [44]) = l := by
  induction l with
  | nil => exact absurd rfl hne
  | cons x r ih =>
    cases r with
    | nil => rw [Lib.join_one, split_none_d x (h x (List.mem_cons_self ..))]
    | cons y t => rw [join_two_d, split_run_d x (h x (List.mem_cons_self ..)), ih (by simp) (fun z hz => h z (List.mem_cons_of_mem _ hz))]
theorem itoa_no_comma_d (n : Int) : ∀ c ∈ Lib.itoa n, c ≠ 44 := by
  intro c hc
  obtain ⟨i, hi⟩ := List.mem_iff_getElem?.1 hc
  rcases itoa_at n i c hi with ⟨_, h⟩ | h
  · rw [h]; decide
  · intro e; rw [e] at h; revert h; decide
theorem allV_itoa_d (ns : List Int) (h : ∀ n ∈ ns, inI n) : allV (ns.map Lib.itoa) = some ns := by
  induction ns with
  | nil => rfl
  | cons n r ih =>
    rw [List.map_cons]
    unfold allV
    rw [decV_itoa n (h n (List.mem_cons_self ..)), ih (fun m hm => h m (List.mem_cons_of_mem _ hm))]
theorem listR_listL_d (ns : List Int) (hne : ns ≠ []) (h : ∀ n ∈ ns, inI n) : listR (listL ns) ns.length = (ns, 0) := by
  have e : splitC 44 (listL ns) = ns.map Lib.itoa := split_join_d _ (by simpa using hne) (by
    intro x hx c hc
    obtain ⟨n, _, rfl⟩ := List.mem_map.1 hx
    exact itoa_no_comma_d n c hc)
  unfold listR
  rw [e, if_neg (by simp), allV_itoa_d ns h]
theorem isInts_row_d {w : World} {a : Option Addr} {len cap : Nat} {zs : List Int} (h : IsInts .i64 w a len cap zs) : ∃ L : List Int, RowN w (.slice a len cap) L ∧ L.length = len ∧ len ≤ maxLen ∧ ∀ n ∈ L, inI n := by
  have hlm : len ≤ maxLen := by
    rcases h with ⟨_, rfl, _⟩ | ⟨_, _, h1, h2, _⟩
    · exact Nat.zero_le _
    · omega
  rcases isInts_cases h with rfl | ⟨b, off, rfl, h0, h1, h2, h3, h4, h5⟩
  · exact ⟨[], .inl ⟨_, _, rfl, rfl⟩, rfl, Nat.zero_le _, by simp⟩
  · refine ⟨(List.range len).map (fun i => zs.getD i 0), ?_, by simp, hlm, ?_⟩
    · refine .inr ⟨b, off, cap, by simp, h3, fun j x hj => ?_, by simpa using h2⟩
      have hjl : j < len := by have := (List.getElem?_eq_some_iff.1 hj).1; simpa using this
      rw [h4 j hjl]
      rw [List.getElem?_map, List.getElem?_range hjl] at hj
      simp only [Option.map_some, Option.some.injEq] at hj
      rw [hj]
    · intro n hn
      rw [List.mem_map] at hn
      obtain ⟨i, hi, rfl⟩ := hn
      have := bounds_i64 (h5 i (by simpa using hi))
      unfold inI
      omega
theorem decR_ok {l : List UInt8} (h : (decR l).2 = 0) : inI (decR l).1 ∧ Lib.itoa (decR l).1 = l := by
  rcases decR_of (l := l) with ⟨n, h1, h2⟩ | ⟨h1, h2⟩
  · rw [h2]; exact decV_some h1
  · rw [h2] at h; simp at h
theorem decR_err (l : List UInt8) : (decR l).2 = 0 ∨ (decR l).2 = 2 := by
  rcases decR_of (l := l) with ⟨n, h1, h2⟩ | ⟨h1, h2⟩
  · rw [h2]; exact .inl rfl
  · rw [h2]; exact .inr rfl
theorem hexR_err (l : List UInt8) : (hexR l).2 = 0 ∨ (hexR l).2 = 2 := by
  by_cases h1 : l.length % 2 = 1
  · rw [hexR_odd h1]; exact .inr rfl
  · cases h2 : hexOk l with
    | false => rw [hexR_bad h2]; exact .inr rfl
    | true => rw [hexR_good h1 h2]; exact .inl rfl
theorem hexR_le (l : List UInt8) : (hexR l).1.length ≤ l.length := by
  by_cases h1 : l.length % 2 = 1
  · rw [hexR_odd h1]; simp
  · cases h2 : hexOk l with
    | false => rw [hexR_bad h2]; simp
    | true => rw [hexR_good h1 h2]; exact pairsB_le l
theorem listR_len (l : List UInt8) (many : Int) : (listR l many).1.length ≤ l.length + 1 := by
  unfold listR
  split
  · simp
  · split
    · rename_i ns h
      have h1 := allV_length h
      have h2 := splitC_count 44 l
      have h3 : List.count 44 l ≤ l.length := List.count_le_length
      simp only; omega
    · simp
end Go.Proofs.YtogjckengmkfiaaDoor
