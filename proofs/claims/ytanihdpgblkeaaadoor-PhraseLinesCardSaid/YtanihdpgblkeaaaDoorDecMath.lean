/-
  Numbers as texts (reeve's layer 5): plain laws, no program in sight.
-/
import Derived.Test.YtanihdpgblkeaaaDoorWordsMath
import Derived.Lib.ItoaNum
import Derived.Lib.AtoiAll
namespace Go.Proofs.YtanihdpgblkeaaaDoor
open Go.RowKit
set_option linter.unusedVariables false
set_option linter.unusedSimpArgs false

/-- A digit. -/
def isD (c : UInt8) : Bool := decide (48 ≤ c.toNat) && decide (c.toNat ≤ 57)
theorem isD_iff {c : UInt8} : isD c = true ↔ 48 ≤ c.toNat ∧ c.toNat ≤ 57 := by unfold isD; simp
/-- The number that digits spell, behind others. -/
def natV (acc : Nat) : List UInt8 → Nat
  | [] => acc
  | c :: r => natV (acc * 10 + (c.toNat - 48)) r
theorem natV_app (l r : List UInt8) : ∀ acc, natV acc (l ++ r) = natV (natV acc l) r := by
  induction l with
  | nil => intro acc; rfl
  | cons c l ih => intro acc; exact ih _
theorem natV_ge (l : List UInt8) : ∀ acc, acc ≤ natV acc l := by
  induction l with
  | nil => intro acc; exact Nat.le_refl _
  | cons c l ih => intro acc; exact Nat.le_trans (by omega) (ih (acc * 10 + (c.toNat - 48)))
theorem dig_toNat (u : Nat) (h : u < 10) : (UInt8.ofNat (48 + u)).toNat = 48 + u := by
  rw [UInt8.toNat_ofNat']; omega
theorem dec_all (u : Nat) : ∀ c ∈ Lib.decDigits u, isD c = true := by
  induction u using Nat.strongRecOn with
  | ind u ih =>
    intro c hc
    unfold Lib.decDigits at hc
    split at hc
    · rename_i h
      rw [List.mem_singleton] at hc
      subst hc
      rw [isD_iff, dig_toNat u h]; omega
    · rename_i h
      rw [List.mem_append] at hc
      rcases hc with hc | hc
      · exact ih (u / 10) (by omega) c hc
      · rw [List.mem_singleton] at hc
        subst hc
        rw [isD_iff, dig_toNat _ (by omega)]; omega
theorem dec_ne (u : Nat) : Lib.decDigits u ≠ [] := by
  unfold Lib.decDigits
  split <;> simp
theorem dec_big (u : Nat) (h : 10 ≤ u) : Lib.decDigits u = Lib.decDigits (u / 10) ++ [UInt8.ofNat (48 + u % 10)] := by
  conv => lhs; unfold Lib.decDigits
  rw [dif_neg (by omega)]
theorem dec_small (u : Nat) (h : u < 10) : Lib.decDigits u = [UInt8.ofNat (48 + u)] := by
  unfold Lib.decDigits
  rw [dif_pos h]
theorem natV_dec (u : Nat) : natV 0 (Lib.decDigits u) = u := by
  induction u using Nat.strongRecOn with
  | ind u ih =>
    by_cases h : u < 10
    · rw [dec_small u h]
      show 0 * 10 + ((UInt8.ofNat (48 + u)).toNat - 48) = u
      rw [dig_toNat u h]; omega
    · rw [dec_big u (by omega), natV_app, ih (u / 10) (by omega)]
      show u / 10 * 10 + ((UInt8.ofNat (48 + u % 10)).toNat - 48) = u
      rw [dig_toNat _ (by omega)]; omega
theorem dec_len (k : Nat) : ∀ u, u < 10 ^ (k + 1) → (Lib.decDigits u).length ≤ k + 1 := by
  induction k with
  | zero => intro u h; rw [dec_small u (by omega)]; simp
  | succ k ih =>
    intro u h
    by_cases h10 : u < 10
    · rw [dec_small u h10]; simp
    · rw [dec_big u (by omega), List.length_append]
      have : u / 10 < 10 ^ (k + 1) := by rw [Nat.pow_succ] at h; omega
      have := ih (u / 10) this
      simp only [List.length_cons, List.length_nil]; omega
theorem parse10 (l : List UInt8) : ∀ acc, (∀ c ∈ l, isD c = true) → natV acc l < 18446744073709551616 → Lib.parseUint10 acc l = .ok (natV acc l) := by
  induction l with
  | nil => intro acc _ _; rfl
  | cons c r ih =>
    intro acc h hv
    have hc := isD_iff.1 (h c (by simp))
    have hge := natV_ge r (acc * 10 + (c.toNat - 48))
    have hv' : natV (acc * 10 + (c.toNat - 48)) r < 18446744073709551616 := hv
    unfold Lib.parseUint10
    rw [if_pos hc, if_neg (by omega), if_neg (by omega), ih _ (fun x hx => h x (by simp [hx])) hv']
    rfl
/-- The range of an int. -/
def inI (n : Int) : Prop := -9223372036854775808 ≤ n ∧ n ≤ 9223372036854775807
instance (n : Int) : Decidable (inI n) := inferInstanceAs (Decidable (_ ∧ _))
theorem itoa_pos (n : Int) (h : 0 ≤ n) : Lib.itoa n = Lib.decDigits n.toNat := by unfold Lib.itoa; rw [if_neg (by omega)]
theorem itoa_negI (n : Int) (h : n < 0) : Lib.itoa n = 45 :: Lib.decDigits n.natAbs := by unfold Lib.itoa; rw [if_pos h]
theorem itoa_ne (n : Int) : Lib.itoa n ≠ [] := by
  unfold Lib.itoa
  split
  · simp
  · exact dec_ne _
theorem atoi_itoa (n : Int) (h : inI n) : Lib.atoiAll (Lib.itoa n) = .ok n := by
  obtain ⟨h0, h1⟩ := h
  by_cases hn : n < 0
  · rw [itoa_negI n hn]
    unfold Lib.atoiAll
    have hp : Lib.parseMag (Lib.decDigits n.natAbs) = .ok n.natAbs := by
      unfold Lib.parseMag
      rw [if_neg (dec_ne _), parse10 _ 0 (dec_all _) (by rw [natV_dec]; omega), natV_dec]
    have e1 : ((45 : UInt8).toNat = 43 ∨ (45 : UInt8).toNat = 45) := .inr rfl
    simp only [if_pos e1, hp]
    rw [if_neg (by simp), if_neg (by omega)]
    simp
    omega
  · rw [itoa_pos n (by omega)]
    have hp : Lib.parseMag (Lib.decDigits n.toNat) = .ok n.toNat := by
      unfold Lib.parseMag
      rw [if_neg (dec_ne _), parse10 _ 0 (dec_all _) (by rw [natV_dec]; omega), natV_dec]
    cases hd : Lib.decDigits n.toNat with
    | nil => exact absurd hd (dec_ne _)
    | cons c r =>
      have hc := isD_iff.1 (dec_all n.toNat c (by rw [hd]; simp))
      rw [hd] at hp
      unfold Lib.atoiAll
      have e1 : ¬ (c.toNat = 43 ∨ c.toNat = 45) := by omega
      simp only [if_neg e1, hp]
      rw [if_neg (by omega), if_neg (by omega), if_neg (by omega)]
      simp
      omega
/-- The number that a text spells, sign and all. -/
def sgnV : List UInt8 → Int
  | [] => 0
  | c :: r => if c = 45 then -(natV 0 r : Int) else natV 0 (c :: r)
theorem sgnV_neg (r : List UInt8) : sgnV (45 :: r) = -(natV 0 r : Int) := by simp [sgnV]
theorem sgnV_pos (c : UInt8) (r : List UInt8) (h : c ≠ 45) : sgnV (c :: r) = (natV 0 (c :: r) : Int) := by simp [sgnV, h]
theorem sgnV_itoa (n : Int) : sgnV (Lib.itoa n) = n := by
  by_cases hn : n < 0
  · rw [itoa_negI n hn, sgnV_neg, natV_dec]; omega
  · rw [itoa_pos n (by omega)]
    have hv := natV_dec n.toNat
    cases hd : Lib.decDigits n.toNat with
    | nil => exact absurd hd (dec_ne _)
    | cons c r =>
      have hc := isD_iff.1 (dec_all n.toNat c (by rw [hd]; simp))
      rw [hd] at hv
      rw [sgnV_pos c r (by intro e; subst e; exact absurd hc.1 (by decide)), hv]; omega
theorem itoa_inj {a b : Int} (h : Lib.itoa a = Lib.itoa b) : a = b := by rw [← sgnV_itoa a, h, sgnV_itoa]
/-- The number of a text, if it is one's text. -/
def decV (l : List UInt8) : Option Int := if inI (sgnV l) ∧ Lib.itoa (sgnV l) = l then some (sgnV l) else none
theorem decV_itoa (n : Int) (h : inI n) : decV (Lib.itoa n) = some n := by
  unfold decV
  rw [sgnV_itoa, if_pos ⟨h, rfl⟩]
theorem decV_some {l : List UInt8} {n : Int} (h : decV l = some n) : inI n ∧ Lib.itoa n = l := by
  unfold decV at h
  split at h
  · rename_i hc; injection h with h; rw [← h]; exact hc
  · cases h
theorem decV_none {l : List UInt8} (h : ∀ n, inI n → Lib.itoa n ≠ l) : decV l = none := by
  cases hd : decV l with
  | none => rfl
  | some n => exact absurd (decV_some hd).2 (h n (decV_some hd).1)
theorem itoa_len (n : Int) (h : inI n) : (Lib.itoa n).length ≤ 20 := by
  obtain ⟨h0, h1⟩ := h
  by_cases hn : n < 0
  · rw [itoa_negI n hn]
    have := dec_len 18 n.natAbs (by omega)
    simp only [List.length_cons]; omega
  · rw [itoa_pos n (by omega)]
    have := dec_len 18 n.toNat (by omega)
    omega
theorem itoa_trim (n : Int) : (Lib.trimPrefix (Lib.itoa n) [45]).all isD = true := by
  by_cases hn : n < 0
  · rw [itoa_negI n hn]
    have e : Lib.trimPrefix (45 :: Lib.decDigits n.natAbs) [45] = Lib.decDigits n.natAbs := by
      unfold Lib.trimPrefix Lib.hasPrefix
      rw [if_pos (by simp)]; simp
    rw [e, List.all_eq_true]
    exact dec_all _
  · rw [itoa_pos n (by omega)]
    cases hd : Lib.decDigits n.toNat with
    | nil => exact absurd hd (dec_ne _)
    | cons c r =>
      have hc := isD_iff.1 (dec_all n.toNat c (by rw [hd]; simp))
      have e : Lib.trimPrefix (c :: r) [45] = c :: r := by
        unfold Lib.trimPrefix Lib.hasPrefix
        rw [if_neg]
        have : (45 == c) = false := by rw [beq_eq_false_iff_ne]; intro e; subst e; exact absurd hc.1 (by decide)
        simp [List.isPrefixOf, this]
      rw [e, ← hd, List.all_eq_true]
      exact dec_all _
theorem itoa_at (n : Int) (i : Nat) (c : UInt8) (h : (Lib.itoa n)[i]? = some c) : (i = 0 ∧ c = 45) ∨ isD c = true := by
  by_cases hn : n < 0
  · rw [itoa_negI n hn] at h
    cases i with
    | zero => simp at h; exact .inl ⟨rfl, h.symm⟩
    | succ i =>
      rw [List.getElem?_cons_succ] at h
      exact .inr (dec_all _ c (List.mem_of_getElem? h))
  · rw [itoa_pos n (by omega)] at h
    exact .inr (dec_all _ c (List.mem_of_getElem? h))
/-- A number's text from the one of its tenth. -/
theorem itoa_step (n d r : Int) (hn : inI n) (h10 : n ≤ -10 ∨ 10 ≤ n) (hd : n.tdiv 10 = d) (hr : (n.tmod 10).natAbs = r.toNat) (h0 : 0 ≤ r) : Lib.itoa n = Lib.itoa d ++ Lib.itoa r ∧ r < 10 ∧ d.natAbs < n.natAbs ∧ inI d := by
  rcases h10 with h | h
  · obtain ⟨u, rfl⟩ : ∃ u : Nat, n = -(u : Int) := ⟨n.natAbs, by omega⟩
    have e1 : (-(u : Int)).tdiv 10 = -((u / 10 : Nat) : Int) := by rw [Int.neg_tdiv]; rfl
    have e2 : (-(u : Int)).tmod 10 = -((u % 10 : Nat) : Int) := by rw [Int.neg_tmod]; rfl
    rw [e1] at hd
    rw [e2] at hr
    subst hd
    obtain ⟨q, rfl⟩ : ∃ q : Nat, r = q := ⟨r.toNat, by omega⟩
    have hq : q = u % 10 := by omega
    refine ⟨?_, by omega, by omega, ?_⟩
    · rw [itoa_negI _ (by omega), itoa_negI _ (by omega), itoa_pos _ (by omega), show (-(u : Int)).natAbs = u by omega, show (-((u / 10 : Nat) : Int)).natAbs = u / 10 by omega, show ((q : Int)).toNat = q by omega, dec_big u (by omega), dec_small q (by omega), hq]
      rfl
    · unfold inI at hn ⊢; omega
  · obtain ⟨u, rfl⟩ : ∃ u : Nat, n = (u : Int) := ⟨n.toNat, by omega⟩
    have e1 : (u : Int).tdiv 10 = ((u / 10 : Nat) : Int) := rfl
    have e2 : (u : Int).tmod 10 = ((u % 10 : Nat) : Int) := rfl
    rw [e1] at hd
    rw [e2] at hr
    subst hd
    obtain ⟨q, rfl⟩ : ∃ q : Nat, r = q := ⟨r.toNat, by omega⟩
    have hq : q = u % 10 := by omega
    refine ⟨?_, by omega, by omega, ?_⟩
    · rw [itoa_pos _ (by omega), itoa_pos _ (by omega), itoa_pos _ (by omega), show ((u : Int)).toNat = u by omega, show (((u / 10 : Nat) : Int)).toNat = u / 10 by omega, show ((q : Int)).toNat = q by omega, dec_big u (by omega), dec_small q (by omega), hq]
    · unfold inI at hn ⊢; omega
end Go.Proofs.YtanihdpgblkeaaaDoor
