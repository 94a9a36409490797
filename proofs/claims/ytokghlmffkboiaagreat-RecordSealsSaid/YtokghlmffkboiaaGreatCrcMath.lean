/-
  The arithmetic of the sums of bytes: halvings of a register of 32 bits, over natural numbers; they go bit by bit, and forget nothing.
-/
import Derived.Laws.BitsAllLaws
namespace Go.Proofs.YtokghlmffkboiaaGreat.Crc
set_option linter.unusedVariables false
set_option linter.unusedSimpArgs false

def half (n : Nat) : Nat := if n % 2 = 1 then (n / 2) ^^^ 3988292384 else n / 2
def halves : Nat → Nat → Nat
  | 0, n => n
  | k + 1, n => halves k (half n)
def step (n : Nat) : Nat := halves 8 n
def reg : Nat → List Nat → Nat
  | n, [] => n
  | n, c :: r => reg (step (n ^^^ c)) r

theorem reg_nil (n : Nat) : reg n [] = n := rfl
theorem reg_cons (n c : Nat) (r : List Nat) : reg n (c :: r) = reg (step (n ^^^ c)) r := rfl
theorem halves_nil (n : Nat) : halves 0 n = n := rfl
theorem halves_succ (k n : Nat) : halves (k + 1) n = halves k (half n) := rfl

theorem xor_lt {a b : Nat} (ha : a < 4294967296) (hb : b < 4294967296) : a ^^^ b < 4294967296 := Nat.xor_lt_two_pow (n := 32) ha hb
theorem half_lt {n : Nat} (h : n < 4294967296) : half n < 4294967296 := by
  unfold half; split
  · exact xor_lt (by omega) (by decide)
  · omega
theorem halves_lt {n : Nat} (k : Nat) (h : n < 4294967296) : halves k n < 4294967296 := by
  induction k generalizing n with
  | zero => exact h
  | succ k ih => exact ih (half_lt h)
theorem step_lt {n : Nat} (h : n < 4294967296) : step n < 4294967296 := halves_lt 8 h

theorem xor_div_two (a b : Nat) : (a ^^^ b) / 2 = (a / 2) ^^^ (b / 2) := by
  apply Nat.eq_of_testBit_eq; intro i
  simp [Nat.testBit_div_two]
theorem half_xor (a b : Nat) : half (a ^^^ b) = half a ^^^ half b := by
  have hm : (a ^^^ b) % 2 = (a % 2 + b % 2) % 2 := by
    have h := Nat.testBit_xor a b 0
    simp only [Nat.testBit_zero] at h
    rcases Nat.mod_two_eq_zero_or_one a with ha | ha <;> rcases Nat.mod_two_eq_zero_or_one b with hb | hb <;> rcases Nat.mod_two_eq_zero_or_one (a ^^^ b) with hc | hc <;> simp [ha, hb, hc] at h ⊢
  unfold half
  rw [xor_div_two, hm]
  rcases Nat.mod_two_eq_zero_or_one a with ha | ha <;> rcases Nat.mod_two_eq_zero_or_one b with hb | hb <;> simp only [ha, hb]
  · rfl
  · simp only [Nat.zero_add, if_true, Nat.reduceMod, Nat.zero_ne_one, if_false]; ac_rfl
  · simp only [Nat.add_zero, if_true, Nat.reduceMod, Nat.zero_ne_one, if_false]; ac_rfl
  · simp only [Nat.reduceAdd, if_true, Nat.reduceMod, Nat.zero_ne_one, if_false]
    have : (a / 2 ^^^ 3988292384) ^^^ (b / 2 ^^^ 3988292384) = (a / 2 ^^^ b / 2) ^^^ (3988292384 ^^^ 3988292384) := by ac_rfl
    rw [this, Nat.xor_self, Nat.xor_zero]
theorem halves_xor (k a b : Nat) : halves k (a ^^^ b) = halves k a ^^^ halves k b := by
  induction k generalizing a b with
  | zero => rfl
  | succ k ih => simp only [halves]; rw [half_xor, ih]
theorem step_xor (a b : Nat) : step (a ^^^ b) = step a ^^^ step b := halves_xor 8 a b

theorem half_ne {n : Nat} (h : n < 4294967296) (h0 : n ≠ 0) : half n ≠ 0 := by
  unfold half; split
  · intro e
    have : n / 2 = 3988292384 := by
      have h1 := congrArg (· ^^^ 3988292384) e
      simp only [Nat.zero_xor, Nat.xor_assoc, Nat.xor_self, Nat.xor_zero] at h1
      exact h1
    omega
  · omega
theorem halves_ne {n : Nat} (k : Nat) (h : n < 4294967296) (h0 : n ≠ 0) : halves k n ≠ 0 := by
  induction k generalizing n with
  | zero => exact h0
  | succ k ih => exact ih (half_lt h) (half_ne h h0)

theorem halves_add (j k n : Nat) : halves (j + k) n = halves k (halves j n) := by
  induction j generalizing n with
  | zero => rw [Nat.zero_add]; rfl
  | succ j ih => rw [Nat.succ_add]; exact ih _
theorem halves_shift (k m : Nat) : halves k (m * 2 ^ k) = m := by
  induction k generalizing m with
  | zero => simp [halves]
  | succ k ih =>
    have e : half (m * 2 ^ (k + 1)) = m * 2 ^ k := by
      have : m * 2 ^ (k + 1) = 2 * (m * 2 ^ k) := by rw [Nat.pow_succ]; simp [Nat.mul_comm, Nat.mul_left_comm]
      unfold half; rw [this, if_neg (by omega)]; omega
    simp only [halves]; rw [e]; exact ih m
theorem step_shift (m : Nat) : step (m * 256) = m := halves_shift 8 m
theorem step_zero : step 0 = 0 := by decide
theorem step_eq (n : Nat) : step n = halves 8 n := rfl
attribute [irreducible] step

/-- A register is its low byte, and what is above it. -/
theorem low_high (n : Nat) : n = (n / 256 * 256) ^^^ (n % 256) := by
  apply Nat.eq_of_testBit_eq; intro i
  rw [Nat.testBit_xor]
  have e1 : n / 256 * 256 = (n / 256) <<< 8 := by rw [Nat.shiftLeft_eq]
  rw [e1, Nat.testBit_shiftLeft]
  have e2 : n / 256 = n >>> 8 := by rw [Nat.shiftRight_eq_div_pow]
  rw [e2, Nat.testBit_shiftRight]
  have e3 : n % 256 = n % 2 ^ 8 := rfl
  rw [e3, Nat.testBit_mod_two_pow]
  by_cases hi : i < 8
  · have h8 : ¬ 8 ≤ i := by omega
    simp [hi, h8]
  · have h8 : 8 ≤ i := by omega
    have : 8 + (i - 8) = i := by omega
    simp [hi, this, h8]
/-- What the table's entries are good for. -/
theorem step_table (n c : Nat) (hc : c < 256) : step (n ^^^ c) = (n / 256) ^^^ step ((n % 256) ^^^ c) := by
  have e : n ^^^ c = (n / 256 * 256) ^^^ ((n % 256) ^^^ c) := by rw [← Nat.xor_assoc, ← low_high]
  rw [e, step_xor, step_shift]

theorem reg_lt {n : Nat} {l : List Nat} (h : n < 4294967296) (hl : ∀ c ∈ l, c < 256) : reg n l < 4294967296 := by
  induction l generalizing n with
  | nil => exact h
  | cons c r ih => exact ih (step_lt (xor_lt h (by have := hl c (by simp); omega))) (fun x hx => hl x (by simp [hx]))
theorem reg_append (n : Nat) (s t : List Nat) : reg n (s ++ t) = reg (reg n s) t := by
  induction s generalizing n with
  | nil => rfl
  | cons c r ih => exact ih _
theorem reg_snoc (n : Nat) (s : List Nat) (c : Nat) : reg n (s ++ [c]) = step (reg n s ^^^ c) := by rw [reg_append]; rfl

theorem xor_four (a b c d : Nat) : a ^^^ b ^^^ (c ^^^ d) = (a ^^^ c) ^^^ (b ^^^ d) := by ac_rfl

/-- Two registers that are fed bytes of one length differ by the register that is fed their differences. -/
theorem reg_xor (a b : Nat) (s t : List Nat) (h : s.length = t.length) : reg (a ^^^ b) (List.zipWith (· ^^^ ·) s t) = reg a s ^^^ reg b t := by
  induction s generalizing a b t with
  | nil => cases t with
    | nil => rfl
    | cons _ _ => simp only [List.length_nil, List.length_cons] at h; omega
  | cons c r ih => cases t with
    | nil => simp only [List.length_nil, List.length_cons] at h; omega
    | cons d t =>
      rw [List.zipWith_cons_cons, reg_cons, reg_cons, reg_cons, xor_four, step_xor]
      exact ih _ _ t (by simp only [List.length_cons] at h; omega)

theorem reg_zeros (n k : Nat) : reg n (List.replicate k 0) = halves (8 * k) n := by
  induction k generalizing n with
  | zero => rw [Nat.mul_zero, List.replicate_zero, reg_nil, halves_nil]
  | succ k ih =>
    have e : 8 * (k + 1) = 8 + 8 * k := by omega
    rw [List.replicate_succ, reg_cons, ih, Nat.xor_zero, e, halves_add 8, step_eq]
theorem halves_zero (k : Nat) : halves k 0 = 0 := by
  induction k with
  | zero => rfl
  | succ k ih => rw [halves_succ]; exact ih

/-- Four bytes of a turn, the lowest first, make what 32 halvings make of it. -/
theorem reg_four (t : Nat) : reg 0 [t % 256, t / 256 % 256, t / 65536 % 256, t / 16777216] = halves 32 t := by
  have s1 (x : Nat) : halves 8 x = (x / 256) ^^^ step (x % 256) := by
    have h1 := congrArg (halves 8) (low_high x)
    rw [halves_xor, halves_shift 8] at h1
    rw [step_eq]
    exact h1
  have h32 : halves 32 t = halves 8 (halves 8 (halves 8 (halves 8 t))) := by rw [← halves_add, ← halves_add, ← halves_add]
  have key (x y : Nat) (r : Nat) : step (r ^^^ (y % 256)) = step (r ^^^ y) ^^^ (y / 256) := by
    have e : r ^^^ y = (r ^^^ (y % 256)) ^^^ (y / 256 * 256) := by
      rw [Nat.xor_assoc, Nat.xor_comm (y % 256), ← low_high]
    rw [e, step_xor (r ^^^ y % 256), step_shift, Nat.xor_assoc, Nat.xor_self, Nat.xor_zero]
  have d1 : t / 65536 = t / 256 / 256 := by omega
  have d2 : t / 16777216 = t / 256 / 256 / 256 := by omega
  rw [h32, d1, d2]
  simp only [reg_cons, reg_nil, Nat.zero_xor]
  have a1 : step (t % 256) = halves 8 t ^^^ (t / 256) := by
    have := key 0 t 0; rw [Nat.zero_xor, Nat.zero_xor, step_eq t] at this; exact this
  generalize halves 8 t = H1 at *
  rw [a1]
  have a2 : step (H1 ^^^ t / 256 ^^^ t / 256 % 256) = halves 8 H1 ^^^ (t / 256 / 256) := by
    rw [key 0 (t / 256)]
    rw [Nat.xor_assoc H1, Nat.xor_self, Nat.xor_zero, step_eq]
  rw [a2]
  generalize halves 8 H1 = H2
  have a3 : step (H2 ^^^ t / 256 / 256 ^^^ t / 256 / 256 % 256) = halves 8 H2 ^^^ (t / 256 / 256 / 256) := by
    rw [key 0 (t / 256 / 256)]
    rw [Nat.xor_assoc H2, Nat.xor_self, Nat.xor_zero, step_eq]
  rw [a3, Nat.xor_assoc, Nat.xor_self, Nat.xor_zero, step_eq]
theorem reg_burst (k m t : Nat) (ht : t < 4294967296) (h0 : t ≠ 0) :
    reg 0 (List.replicate k 0 ++ [t % 256, t / 256 % 256, t / 65536 % 256, t / 16777216] ++ List.replicate m 0) ≠ 0 := by
  simp only [reg_append, reg_zeros, halves_zero, reg_four]
  exact halves_ne _ (halves_lt _ ht) (halves_ne _ ht h0)

/-- All bits turned. -/
def compl (n : Nat) : Nat := 4294967295 - n
theorem compl_compl {n : Nat} (h : n < 4294967296) : compl (compl n) = n := by unfold compl; omega
theorem compl_lt (n : Nat) : compl n < 4294967296 := by unfold compl; omega
theorem compl_inj {a b : Nat} (ha : a < 4294967296) (hb : b < 4294967296) (h : compl a = compl b) : a = b := by unfold compl at h; omega
/-- The sum of a text behind a sum. -/
def more (sum : Nat) (s : List Nat) : Nat := compl (reg (compl sum) s)
theorem more_lt (sum : Nat) (s : List Nat) : more sum s < 4294967296 := compl_lt _
theorem more_append (sum : Nat) (s t : List Nat) (hs : ∀ c ∈ s, c < 256) : more sum (s ++ t) = more (more sum s) t := by
  unfold more; rw [reg_append, compl_compl (reg_lt (compl_lt _) hs)]
end Go.Proofs.YtokghlmffkboiaaGreat.Crc
