/-
  Bytes as signs (reeve's layer 5): the plain law.
-/
import Derived.Test.YtogjckengmkfiaaDoorDecHex
namespace Go.Proofs.YtogjckengmkfiaaDoor
open Go.RowKit
set_option linter.unusedVariables false
set_option linter.unusedSimpArgs false

/-- Which sign it is; 16: none. -/
def plc (c : UInt8) : Nat := sigL.idxOf c
theorem plc_le (c : UInt8) : plc c ≤ 16 := List.idxOf_le_length
theorem plc_mem {c : UInt8} (h : plc c < 16) : c ∈ sigL := List.idxOf_lt_length_iff.1 h
theorem sg_plc {c : UInt8} (h : plc c < 16) : sg (plc c) = c := by
  unfold sg plc at *
  rw [List.getD_eq_getElem?_getD, List.getElem?_eq_getElem h]
  exact List.getElem_idxOf h
theorem plc_sg {k : Nat} (h : k < 16) : plc (sg k) = k := by
  have : k = 0 ∨ k = 1 ∨ k = 2 ∨ k = 3 ∨ k = 4 ∨ k = 5 ∨ k = 6 ∨ k = 7 ∨ k = 8 ∨ k = 9 ∨ k = 10 ∨ k = 11 ∨ k = 12 ∨ k = 13 ∨ k = 14 ∨ k = 15 := by omega
  rcases this with rfl | rfl | rfl | rfl | rfl | rfl | rfl | rfl | rfl | rfl | rfl | rfl | rfl | rfl | rfl | rfl <;> rfl
theorem plc_high {c : UInt8} (h : 128 ≤ c.toNat) : plc c = 16 := by
  have h1 := plc_le c
  by_cases h2 : plc c < 16
  · have h3 := plc_mem h2
    unfold sigL at h3
    simp only [List.mem_cons, List.not_mem_nil, or_false] at h3
    rcases h3 with rfl | rfl | rfl | rfl | rfl | rfl | rfl | rfl | rfl | rfl | rfl | rfl | rfl | rfl | rfl | rfl <;> revert h <;> decide
  · omega
/-- The bytes of pairs of signs. -/
def pairsB : List UInt8 → List UInt8
  | x :: y :: r => UInt8.ofNat (plc x * 16 + plc y) :: pairsB r
  | _ => []
def hexOk (l : List UInt8) : Bool := l.all (fun c => decide (plc c < 16))
def hexR (l : List UInt8) : List UInt8 × Int := if l.length % 2 = 1 ∨ hexOk l = false then ([], 2) else (pairsB l, 0)
theorem hexR_odd {l : List UInt8} (h : l.length % 2 = 1) : hexR l = ([], 2) := if_pos (.inl h)
theorem hexR_bad {l : List UInt8} (h : hexOk l = false) : hexR l = ([], 2) := if_pos (.inr h)
theorem hexR_bad_at {l : List UInt8} {i : Nat} {c : UInt8} (h : l[i]? = some c) (hc : plc c = 16) : hexR l = ([], 2) := by
  apply hexR_bad
  unfold hexOk
  rw [List.all_eq_false]
  exact ⟨c, List.mem_of_getElem? h, by simp [hc]⟩
theorem hexR_good {l : List UInt8} (h1 : ¬ l.length % 2 = 1) (h2 : hexOk l = true) : hexR l = (pairsB l, 0) := if_neg (by rw [h2]; simp [h1])
theorem hexOk_at {l : List UInt8} {i : Nat} {c : UInt8} (h : hexOk l = true) (hi : l[i]? = some c) : plc c < 16 := by
  unfold hexOk at h
  rw [List.all_eq_true] at h
  simpa using h c (List.mem_of_getElem? hi)
theorem pairsB_take (l : List UInt8) : ∀ (k : Nat) (x y : UInt8), l[2 * k]? = some x → l[2 * k + 1]? = some y → pairsB (l.take (2 * (k + 1))) = pairsB (l.take (2 * k)) ++ [UInt8.ofNat (plc x * 16 + plc y)] := by
  intro k
  induction k generalizing l with
  | zero =>
    intro x y h1 h2
    match l, h1, h2 with
    | [], h1, _ => simp at h1
    | [a], _, h2 => simp at h2
    | a :: b :: r, h1, h2 => simp at h1 h2; subst h1; subst h2; simp [pairsB]
  | succ k ih =>
    intro x y h1 h2
    match l, h1, h2 with
    | [], h1, _ => simp at h1
    | [a], h1, _ => simp [show 2 * (k + 1) = 2 * k + 1 + 1 by omega] at h1
    | a :: b :: r, h1, h2 =>
      rw [show 2 * (k + 1) = 2 * k + 1 + 1 by omega] at h1 h2
      simp only [List.getElem?_cons_succ] at h1 h2
      have := ih r x y h1 h2
      rw [show 2 * (k + 1 + 1) = 2 * (k + 1) + 1 + 1 by omega, show 2 * (k + 1) = 2 * k + 1 + 1 by omega]
      simp only [List.take_succ_cons, pairsB, List.cons_append]
      rw [← this, show 2 * (k + 1) = 2 * k + 1 + 1 by omega]
theorem pairsB_le (l : List UInt8) : (pairsB l).length ≤ l.length := by
  match l with
  | [] => simp [pairsB]
  | [a] => simp [pairsB]
  | a :: b :: r => have := pairsB_le r; simp only [pairsB, List.length_cons]; omega
theorem hexL_ok (l : List UInt8) : hexOk (hexL l) = true := by
  induction l with
  | nil => rfl
  | cons c r ih =>
    have e : hexL (c :: r) = sg (c.toNat / 16) :: sg (c.toNat % 16) :: hexL r := by simp [hexL, hexB]
    have hc := c.toNat_lt
    unfold hexOk at *
    rw [e]
    simp only [List.all_cons, ih, plc_sg (show c.toNat / 16 < 16 by omega), plc_sg (show c.toNat % 16 < 16 by omega), Bool.and_true, Bool.and_eq_true, decide_eq_true_eq]
    omega
theorem pairs_hex (l : List UInt8) : pairsB (hexL l) = l := by
  induction l with
  | nil => rfl
  | cons c r ih =>
    have e : hexL (c :: r) = sg (c.toNat / 16) :: sg (c.toNat % 16) :: hexL r := by simp [hexL, hexB]
    have hc := c.toNat_lt
    rw [e]
    simp only [pairsB, ih, plc_sg (show c.toNat / 16 < 16 by omega), plc_sg (show c.toNat % 16 < 16 by omega)]
    rw [show c.toNat / 16 * 16 + c.toNat % 16 = c.toNat by omega]
    simp
/-- Signs tell the bytes again. -/
theorem hex_back (l : List UInt8) : hexR (hexL l) = (l, 0) := by
  rw [hexR_good (by rw [hexL_length]; omega) (hexL_ok l), pairs_hex]
theorem hex_only_n (n : Nat) : ∀ l : List UInt8, l.length ≤ n → (hexR l).2 = 0 → hexL (hexR l).1 = l := by
  induction n with
  | zero =>
    intro l hl h
    obtain rfl : l = [] := List.eq_nil_of_length_eq_zero (by omega)
    rfl
  | succ n ih =>
    intro l hl h
    by_cases h1 : l.length % 2 = 1
    · rw [hexR_odd h1] at h; simp at h
    · cases h2 : hexOk l with
      | false => rw [hexR_bad h2] at h; simp at h
      | true =>
        rw [hexR_good h1 h2]
        show hexL (pairsB l) = l
        clear h
        match l, hl, h1, h2 with
        | [], _, _, _ => rfl
        | [a], _, h1, _ => simp at h1
        | a :: b :: r, hl, h1, h2 =>
          simp only [List.length_cons] at hl h1
          have ha := hexOk_at (i := 0) h2 rfl
          have hb := hexOk_at (i := 1) h2 rfl
          have hr : hexOk r = true := by unfold hexOk at *; simp only [List.all_cons, Bool.and_eq_true] at h2; exact h2.2.2
          have ih := ih r (by omega) (by rw [hexR_good (by omega) hr])
          rw [hexR_good (by omega) hr] at ih
          have e : hexL (pairsB (a :: b :: r)) = hexB (UInt8.ofNat (plc a * 16 + plc b)) ++ hexL (pairsB r) := by simp [hexL, pairsB]
          rw [e, ih]
          unfold hexB
          have hn : (UInt8.ofNat (plc a * 16 + plc b)).toNat = plc a * 16 + plc b := by simp; omega
          rw [hn, show (plc a * 16 + plc b) / 16 = plc a by omega, show (plc a * 16 + plc b) % 16 = plc b by omega, sg_plc ha, sg_plc hb]
          rfl
/-- Nothing else is read as those bytes. -/
theorem hex_only (l : List UInt8) (h : (hexR l).2 = 0) : hexL (hexR l).1 = l := hex_only_n l.length l (Nat.le_refl _) h
theorem idx_sign : ∀ i : Fin 256, Lib.indexByte sigL (UInt8.ofNat i.val) = if plc (UInt8.ofNat i.val) < 16 then (plc (UInt8.ofNat i.val) : Int) else -1 := by decide +kernel
theorem index_sign (c : UInt8) : Lib.indexByte sigL c = if plc c < 16 then (plc c : Int) else -1 := by
  have := idx_sign ⟨c.toNat, c.toNat_lt⟩
  simpa using this
end Go.Proofs.YtogjckengmkfiaaDoor
