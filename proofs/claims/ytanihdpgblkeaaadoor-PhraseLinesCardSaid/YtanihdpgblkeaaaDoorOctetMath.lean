/-
  Numbers as bytes: so many bytes of a number, the highest one first; seven bits in each, the lowest first.
-/
import Derived.Laws.Bits128
namespace Go.Proofs.YtanihdpgblkeaaaDoor.Oct
set_option linter.unusedVariables false
set_option linter.unusedSimpArgs false

/-- So many bytes of a number, the highest one first. -/
def fixB : Nat → Nat → List UInt8
  | _, 0 => []
  | n, k + 1 => fixB (n / 256) k ++ [UInt8.ofNat (n % 256)]
theorem fixB_length (n k : Nat) : (fixB n k).length = k := by
  induction k generalizing n with
  | zero => rfl
  | succ k ih => simp [fixB, ih]
theorem fixB_cons (n k : Nat) : fixB n (k + 1) = UInt8.ofNat (n / 256 ^ k % 256) :: fixB n k := by
  induction k generalizing n with
  | zero => simp [fixB]
  | succ k ih =>
    have e : fixB n (k + 1 + 1) = fixB (n / 256) (k + 1) ++ [UInt8.ofNat (n % 256)] := rfl
    rw [e, ih (n / 256), Nat.div_div_eq_div_mul, show 256 * 256 ^ k = 256 ^ (k + 1) by rw [Nat.pow_succ, Nat.mul_comm]]
    rfl

/-- Seven bits of a number in each byte, the lowest first; all but the last one are marked. -/
def varB (n : Nat) : List UInt8 := if h : n < 128 then [UInt8.ofNat n] else UInt8.ofNat (n % 128 + 128) :: varB (n / 128)
termination_by n
decreasing_by omega
theorem varB_lt {n : Nat} (h : n < 128) : varB n = [UInt8.ofNat n] := by rw [varB, dif_pos h]
theorem varB_ge {n : Nat} (h : ¬ n < 128) : varB n = UInt8.ofNat (n % 128 + 128) :: varB (n / 128) := by rw [varB, dif_neg h]
theorem varB_pos (n : Nat) : 0 < (varB n).length := by
  by_cases h : n < 128
  · rw [varB_lt h]; simp
  · rw [varB_ge h]; simp
theorem varB_length (k n : Nat) (h : n < 128 ^ (k + 1)) : (varB n).length ≤ k + 1 := by
  induction k generalizing n with
  | zero => rw [varB_lt (by simpa using h)]; simp
  | succ k ih =>
    by_cases hn : n < 128
    · rw [varB_lt hn]; simp
    · rw [varB_ge hn, List.length_cons]
      have : n / 128 < 128 ^ (k + 1) := by
        rw [Nat.div_lt_iff_lt_mul (by decide)]
        rw [Nat.pow_succ] at h
        exact h
      have := ih _ this
      omega
theorem varB_nine (n : Nat) (h : n ≤ 9223372036854775807) : (varB n).length ≤ 9 := varB_length 8 n (by
  have : (128 : Nat) ^ 9 = 9223372036854775808 := by decide
  rw [this]; omega)

theorem or128 (n : Nat) (h : n < 128) : bits .or .i64 (n : Int) 128 = ((n + 128 : Nat) : Int) := by
  have e : bits .or .i64 (n : Int) ((128 : Nat) : Int) = ((n ||| 128 : Nat) : Int) :=
    (bits_nat .i64 63 (by decide) (fun m h0 h1 => by rw [IntKind.wrap_i64]; have : (2 : Int) ^ 63 = 9223372036854775808 := by decide
                                                     omega) n 128 (by have : (2 : Nat) ^ 63 = 9223372036854775808 := by decide
                                                                      omega) (by decide)).2
  have e2 : n ||| 128 = n + 128 := by
    have := Nat.two_pow_add_eq_or_of_lt (i := 7) (b := n) h 1
    rw [Nat.or_comm]
    simp at this
    omega
  rw [e2] at e
  exact e

theorem i64_and127 (n : Int) : bits BinOp.and IntKind.i64 n 127 = n % 128 := by
  have h255 : (BitVec.ofInt 64 127).toNat = 2 ^ 7 - 1 := by decide
  have key : (BitVec.ofInt 64 n &&& BitVec.ofInt 64 127).toNat = (n % ((2 ^ 64 : Nat) : Int)).toNat % 2 ^ 7 := by
    rw [BitVec.toNat_and, BitVec.toNat_ofInt, h255, Nat.and_two_pow_sub_one_eq_mod]
  show IntKind.i64.wrap ((BitVec.ofInt 64 n &&& BitVec.ofInt 64 127).toNat : Nat) = n % 128
  rw [key, IntKind.wrap_i64]
  omega
end Go.Proofs.YtanihdpgblkeaaaDoor.Oct
