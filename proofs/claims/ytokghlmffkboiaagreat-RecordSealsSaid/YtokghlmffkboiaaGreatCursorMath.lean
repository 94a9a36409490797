/-
  Numbers taken of bytes: plain laws.
-/
import Derived.Test.YtokghlmffkboiaaGreatOctetMath
namespace Go.Proofs.YtokghlmffkboiaaGreat.Oct
set_option linter.unusedVariables false
set_option linter.unusedSimpArgs false

/-- The number that bytes make, the highest one first. -/
def numFrom : Nat → List UInt8 → Nat
  | n, [] => n
  | n, b :: r => numFrom (n * 256 + b.toNat) r
theorem numFrom_append (n : Nat) (a b : List UInt8) : numFrom n (a ++ b) = numFrom (numFrom n a) b := by
  induction a generalizing n with
  | nil => rfl
  | cons x r ih => exact ih _
theorem numFrom_lt (n : Nat) (l : List UInt8) : numFrom n l < (n + 1) * 256 ^ l.length := by
  induction l generalizing n with
  | nil => simp [numFrom]
  | cons x r ih =>
    have h := ih (n * 256 + x.toNat)
    have hx := x.toNat_lt
    have h2 : (n * 256 + x.toNat + 1) * 256 ^ r.length ≤ (n + 1) * 256 * 256 ^ r.length := Nat.mul_le_mul_right _ (by omega)
    rw [List.length_cons, Nat.pow_succ, Nat.mul_comm (256 ^ r.length) 256, ← Nat.mul_assoc]
    exact Nat.lt_of_lt_of_le h h2
theorem numFrom_fixB (n k : Nat) : numFrom 0 (fixB n k) = n % 256 ^ k := by
  induction k generalizing n with
  | zero => simp [fixB, numFrom, Nat.mod_one]
  | succ k ih =>
    rw [fixB, numFrom_append, ih]
    simp only [numFrom]
    have e : (UInt8.ofNat (n % 256)).toNat = n % 256 := by simp
    rw [e, Nat.pow_succ, Nat.mul_comm (256 ^ k) 256, Nat.mod_mul, Nat.mul_comm]
    omega

/-- The number that bytes make, seven bits of each, the lowest first. -/
def valB : List UInt8 → Nat
  | [] => 0
  | b :: r => b.toNat % 128 + 128 * valB r
theorem valB_lt (l : List UInt8) : valB l < 128 ^ l.length := by
  induction l with
  | nil => simp [valB]
  | cons b r ih =>
    rw [valB, List.length_cons, Nat.pow_succ]
    have := Nat.mod_lt b.toNat (show 128 > 0 by decide)
    omega
theorem valB_varB (n : Nat) : valB (varB n) = n := by
  induction n using Nat.strongRecOn with
  | ind n ih =>
    by_cases h : n < 128
    · rw [varB_lt h, valB, valB]
      have e : (UInt8.ofNat n).toNat = n := by simp; omega
      rw [e]; omega
    · rw [varB_ge h, valB, ih _ (by omega)]
      have e : (UInt8.ofNat (n % 128 + 128)).toNat = n % 128 + 128 := by simp; omega
      rw [e]; omega

/-- All are marked. -/
def Marked (l : List UInt8) : Prop := ∀ b ∈ l, 128 ≤ b.toNat
theorem varB_marked (n : Nat) : ∃ p z, varB n = p ++ [z] ∧ Marked p ∧ z.toNat < 128 ∧ (p = [] ∨ z.toNat ≠ 0) := by
  induction n using Nat.strongRecOn with
  | ind n ih =>
    by_cases h : n < 128
    · refine ⟨[], UInt8.ofNat n, by rw [varB_lt h]; rfl, fun b hb => by simp at hb, by simp; omega, .inl rfl⟩
    · obtain ⟨p, z, he, hp, hz, hpz⟩ := ih (n / 128) (by omega)
      refine ⟨UInt8.ofNat (n % 128 + 128) :: p, z, by rw [varB_ge h, he]; rfl, ?_, hz, .inr ?_⟩
      · intro b hb
        rcases List.mem_cons.1 hb with rfl | hb
        · simp; omega
        · exact hp b hb
      · rcases hpz with rfl | hpz
        · intro h0
          have hv := valB_varB (n / 128)
          rw [he] at hv
          simp [valB, h0] at hv
          omega
        · exact hpz

theorem varB_valB (p : List UInt8) (z : UInt8) (hp : Marked p) (hz : z.toNat < 128) (h : p = [] ∨ z.toNat ≠ 0) : varB (valB (p ++ [z])) = p ++ [z] := by
  induction p with
  | nil =>
    have e : valB ([] ++ [z]) = z.toNat := by simp [valB]; omega
    rw [e, varB_lt hz]; simp
  | cons b r ih =>
    have hz0 : z.toNat ≠ 0 := by
      rcases h with h | h
      · cases h
      · exact h
    have ih' := ih (fun x hx => hp x (by simp [hx])) (.inr hz0)
    have hb := hp b (by simp)
    have hb2 := b.toNat_lt
    have hpos : ∀ r : List UInt8, 0 < valB (r ++ [z]) := by
      intro r
      induction r with
      | nil => simp [valB]; omega
      | cons x r ih => simp only [List.cons_append, valB]; omega
    have hp0 := hpos r
    have e : valB (b :: r ++ [z]) = b.toNat % 128 + 128 * valB (r ++ [z]) := rfl
    rw [e, varB_ge (by omega)]
    have e1 : (b.toNat % 128 + 128 * valB (r ++ [z])) % 128 + 128 = b.toNat := by omega
    have e2 : (b.toNat % 128 + 128 * valB (r ++ [z])) / 128 = valB (r ++ [z]) := by omega
    rw [e1, e2, ih']
    simp

/-- Bytes that no number has: their last is nothing, and it is not the first. -/
theorem varB_bad (p : List UInt8) (z : UInt8) (n : Nat) (h : varB n = p ++ [z]) : p = [] ∨ z.toNat ≠ 0 := by
  obtain ⟨p', z', he, _, _, hpz⟩ := varB_marked n
  rw [h] at he
  obtain ⟨rfl, h2⟩ := List.append_inj' he rfl
  injection h2 with h2
  subst h2
  exact hpz

/-- Where the first byte that is not marked lies. -/
def endOf : List UInt8 → Nat
  | [] => 0
  | b :: r => if b.toNat < 128 then 0 else endOf r + 1
theorem endOf_le (l : List UInt8) : endOf l ≤ l.length := by
  induction l with
  | nil => simp [endOf]
  | cons b r ih => rw [endOf]; split <;> simp <;> omega
theorem endOf_marked (l : List UInt8) (j : Nat) (hj : j < endOf l) : 128 ≤ (l.getD j 0).toNat := by
  induction l generalizing j with
  | nil => simp [endOf] at hj
  | cons b r ih =>
    rw [endOf] at hj
    split at hj
    · omega
    · cases j with
      | zero => simp; omega
      | succ j => simpa using ih j (by omega)
theorem endOf_end (l : List UInt8) (h : endOf l < l.length) : (l.getD (endOf l) 0).toNat < 128 := by
  induction l with
  | nil => simp at h
  | cons b r ih =>
    by_cases hb : b.toNat < 128
    · simp [endOf, hb]
    · have e : endOf (b :: r) = endOf r + 1 := by simp [endOf, hb]
      rw [e] at h ⊢
      simpa using ih (by simpa using h)
/-- The end's place is told by what lies ahead of it and there. -/
theorem endOf_eq (l : List UInt8) (k : Nat) (hk : k ≤ l.length) (h1 : ∀ j, j < k → 128 ≤ (l.getD j 0).toNat) (h2 : k = l.length ∨ (l.getD k 0).toNat < 128) : endOf l = k := by
  induction l generalizing k with
  | nil => simp at hk; simp [endOf, hk]
  | cons b r ih =>
    cases k with
    | zero =>
      rcases h2 with h2 | h2
      · simp at h2
      · simp at h2; simp [endOf]; omega
    | succ k =>
      have hb := h1 0 (by omega)
      simp at hb
      rw [endOf, if_neg (by omega), ih k (by simpa using hk) (fun j hj => by simpa using h1 (j + 1) (by omega)) (by simpa using h2)]

/-- What is taken as a number: 0, how many bytes it has; 1: too short; 2: no form. -/
inductive Took where
  | short
  | form
  | num (n size : Nat)
def takeVar (l : List UInt8) : Took :=
  if endOf l = l.length then .short
  else if 9 ≤ endOf l ∨ (0 < endOf l ∧ (l.getD (endOf l) 0).toNat = 0) then .form
  else .num (valB (l.take (endOf l + 1))) (endOf l + 1)
theorem take_end (l : List UInt8) (h : endOf l < l.length) : ∃ p z, l.take (endOf l + 1) = p ++ [z] ∧ p.length = endOf l ∧ Marked p ∧ z.toNat < 128 ∧ z = l.getD (endOf l) 0 := by
  refine ⟨l.take (endOf l), l.getD (endOf l) 0, ?_, by simp; omega, ?_, endOf_end l h, rfl⟩
  · rw [List.take_succ_eq_append_getElem h, List.getD_eq_getElem?_getD, List.getElem?_eq_getElem h]; rfl
  · intro b hb
    obtain ⟨j, hj, rfl⟩ := List.getElem_of_mem hb
    have hj' : j < endOf l := by simp at hj; omega
    have := endOf_marked l j hj'
    rw [List.getD_eq_getElem?_getD, List.getElem?_eq_getElem (by omega)] at this
    simpa using this
theorem takeVar_num (l : List UInt8) (n s : Nat) (h : takeVar l = .num n s) : s ≤ l.length ∧ 1 ≤ s ∧ s ≤ 9 ∧ n = valB (l.take s) ∧ n ≤ 9223372036854775807 ∧ varB n = l.take s := by
  have hle := endOf_le l
  unfold takeVar at h
  split at h
  · cases h
  · split at h
    · cases h
    · rename_i h1 h2
      injection h with h3 h4
      subst h3 h4
      obtain ⟨p, z, e1, e2, e3, e4, e5⟩ := take_end l (by omega)
      refine ⟨by omega, by omega, by omega, rfl, ?_, ?_⟩
      · have := valB_lt (l.take (endOf l + 1))
        have e : (l.take (endOf l + 1)).length ≤ 9 := by rw [List.length_take]; omega
        have : (128 : Nat) ^ (l.take (endOf l + 1)).length ≤ 128 ^ 9 := Nat.pow_le_pow_right (by decide) e
        have : (128 : Nat) ^ 9 = 9223372036854775808 := by decide
        omega
      · rw [e1]
        refine varB_valB p z e3 e4 ?_
        by_cases hp : p = []
        · exact .inl hp
        · right
          intro hz
          have : p.length ≠ 0 := fun h => hp (List.eq_nil_of_length_eq_zero h)
          exact h2 (.inr ⟨by omega, by rw [← e5]; exact hz⟩)
theorem takeVar_varB (n : Nat) (hn : n ≤ 9223372036854775807) (r : List UInt8) : takeVar (varB n ++ r) = .num n (varB n).length := by
  obtain ⟨p, z, he, hp, hz, hpz⟩ := varB_marked n
  have hlen := varB_nine n hn
  have hl : (varB n).length = p.length + 1 := by rw [he]; simp
  have hend : endOf (varB n ++ r) = p.length := by
    apply endOf_eq
    · simp; omega
    · intro j hj
      rw [he, List.append_assoc, List.getD_eq_getElem?_getD, List.getElem?_append_left hj, List.getElem?_eq_getElem hj]
      exact hp _ (List.getElem_mem _)
    · right
      rw [he, List.append_assoc, List.getD_eq_getElem?_getD, List.getElem?_append_right (Nat.le_refl _)]
      simpa using hz
  unfold takeVar
  rw [hend, if_neg (by rw [List.length_append, hl]; omega), if_neg]
  · rw [← hl, List.take_left, valB_varB]
  · rintro (h | ⟨h1, h2⟩)
    · omega
    · rw [he, List.append_assoc, List.getD_eq_getElem?_getD, List.getElem?_append_right (Nat.le_refl _)] at h2
      simp at h2
      rcases hpz with rfl | hpz
      · simp at h1
      · exact hpz (by rw [h2])

/-- How many bytes a number has that begins there; 0: it has no end. -/
def sizeN (l : List UInt8) : Nat := if endOf l = l.length then 0 else endOf l + 1
theorem sizeN_none {l : List UInt8} (h : endOf l = l.length) : sizeN l = 0 := if_pos h
theorem sizeN_some {l : List UInt8} (h : ¬ endOf l = l.length) : sizeN l = endOf l + 1 := if_neg h
theorem sizeN_le (l : List UInt8) : sizeN l ≤ l.length := by
  have := endOf_le l
  unfold sizeN; split <;> omega
theorem takeVar_cases (l : List UInt8) :
    (sizeN l = 0 ∧ takeVar l = .short) ∨ (9 < sizeN l ∧ takeVar l = .form) ∨
    (1 < sizeN l ∧ sizeN l ≤ 9 ∧ (l.getD (sizeN l - 1) 0).toNat = 0 ∧ takeVar l = .form) ∨
    (1 ≤ sizeN l ∧ sizeN l ≤ 9 ∧ ¬ (1 < sizeN l ∧ (l.getD (sizeN l - 1) 0).toNat = 0) ∧ takeVar l = .num (valB (l.take (sizeN l))) (sizeN l)) := by
  unfold takeVar
  by_cases h : endOf l = l.length
  · rw [sizeN_none h, if_pos h]; exact .inl ⟨rfl, rfl⟩
  · rw [sizeN_some h, if_neg h, Nat.add_sub_cancel]
    by_cases h1 : 9 ≤ endOf l
    · rw [if_pos (.inl h1)]; exact .inr (.inl ⟨by omega, rfl⟩)
    · by_cases h2 : 0 < endOf l ∧ (l.getD (endOf l) 0).toNat = 0
      · rw [if_pos (.inr h2)]; exact .inr (.inr (.inl ⟨by omega, by omega, h2.2, rfl⟩))
      · rw [if_neg (fun h => h.elim h1 h2)]
        exact .inr (.inr (.inr ⟨by omega, by omega, fun h => h2 ⟨by omega, h.2⟩, rfl⟩))
/-- The number from the end on: what a loop from the last byte down has reckoned. -/
def valFrom (l : List UInt8) (k : Nat) : Nat := valB (l.drop k)
theorem valFrom_step (l : List UInt8) (k : Nat) (h : k < l.length) : valFrom l k = (l.getD k 0).toNat % 128 + 128 * valFrom l (k + 1) := by
  unfold valFrom
  rw [List.drop_eq_getElem_cons h, valB, List.getD_eq_getElem?_getD, List.getElem?_eq_getElem h]
  rfl
theorem valFrom_end (l : List UInt8) : valFrom l l.length = 0 := by simp [valFrom, valB]
theorem valFrom_all (l : List UInt8) : valFrom l 0 = valB l := by simp [valFrom]
theorem valFrom_lt (l : List UInt8) (k : Nat) (h : l.length ≤ 9) : valFrom l (k + 1) < 72057594037927936 := by
  have := valB_lt (l.drop (k + 1))
  have e : (l.drop (k + 1)).length ≤ 8 := by rw [List.length_drop]; omega
  have : (128 : Nat) ^ (l.drop (k + 1)).length ≤ 128 ^ 8 := Nat.pow_le_pow_right (by decide) e
  have : (128 : Nat) ^ 8 = 72057594037927936 := by decide
  unfold valFrom
  omega

theorem u8_and127 (n : Nat) (h : n < 256) : bits BinOp.and IntKind.u8 (n : Int) 127 = ((n % 128 : Nat) : Int) := by
  have key := (bits_nat .u8 8 (by decide) (fun m h0 h1 => by rw [IntKind.wrap_u8]; have : (2 : Int) ^ 8 = 256 := by decide
                                                             omega) n 127 (by have : (2 : Nat) ^ 8 = 256 := by decide
                                                                              omega) (by decide)).1
  have e : n &&& 127 = n % 128 := Nat.and_two_pow_sub_one_eq_mod n 7
  rw [e] at key
  exact key
theorem or_low (v r : Nat) (hv : v < 72057594037927936) (hr : r < 128) : bits BinOp.or IntKind.i64 ((128 * v : Nat) : Int) (r : Int) = ((r + 128 * v : Nat) : Int) := by
  have p63 : (2 : Nat) ^ 63 = 9223372036854775808 := by decide
  have i63 : (2 : Int) ^ 63 = 9223372036854775808 := by decide
  have hw : ∀ m : Int, 0 ≤ m → m < 2 ^ 63 → IntKind.i64.wrap m = m := by
    intro m h0 h1
    rw [IntKind.wrap_i64]
    omega
  have key := (bits_nat .i64 63 (by decide) hw (128 * v) r (by omega) (by omega)).2
  have e : 128 * v ||| r = r + 128 * v := by
    have := Nat.two_pow_add_eq_or_of_lt (i := 7) (b := r) hr v
    rw [show (2 : Nat) ^ 7 = 128 by decide] at this
    omega
  rw [e] at key
  exact key
end Go.Proofs.YtokghlmffkboiaaGreat.Oct
