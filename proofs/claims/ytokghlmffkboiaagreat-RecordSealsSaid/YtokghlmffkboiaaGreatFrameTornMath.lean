/-
  A frame with a byte that is turned is none (reeve's layer 4).
-/
import Derived.Test.YtokghlmffkboiaaGreatFrameMath
namespace Go.Proofs.YtokghlmffkboiaaGreat
open Go.RowKit
set_option linter.unusedVariables false
set_option linter.unusedSimpArgs false

theorem Crc.reg_one (k m t : Nat) (ht : t < 256) (h0 : t ≠ 0) : Crc.reg 0 (List.replicate k 0 ++ [t] ++ List.replicate m 0) ≠ 0 := by
  simp only [Crc.reg_append, Crc.reg_zeros, Crc.halves_zero, Crc.reg_cons, Crc.reg_nil, Nat.zero_xor, Crc.step_eq]
  exact Crc.halves_ne _ (Crc.halves_lt _ (by omega)) (Crc.halves_ne _ (by omega) h0)
/-- One byte that is another: another sum. -/
theorem Crc.more_turn (A Z : List Nat) (x y : Nat) (hA : ∀ c ∈ A, c < 256) (hZ : ∀ c ∈ Z, c < 256) (hx : x < 256) (hy : y < 256) (hne : x ≠ y) : Crc.more 0 (A ++ [x] ++ Z) ≠ Crc.more 0 (A ++ [y] ++ Z) := by
  intro h
  have hl : ∀ (u : Nat), u < 256 → ∀ c ∈ A ++ [u] ++ Z, c < 256 := by
    intro u hu c hc
    simp only [List.mem_append, List.mem_singleton] at hc
    rcases hc with (hc | hc) | hc
    · exact hA c hc
    · subst hc; exact hu
    · exact hZ c hc
  have h1 := Crc.compl_inj (Crc.reg_lt (Crc.compl_lt 0) (hl x hx)) (Crc.reg_lt (Crc.compl_lt 0) (hl y hy)) h
  have h2 := Crc.reg_xor (Crc.compl 0) (Crc.compl 0) (A ++ [x] ++ Z) (A ++ [y] ++ Z) (by simp)
  rw [h1, Nat.xor_self, Nat.xor_self] at h2
  have hz : ∀ L : List Nat, List.zipWith (· ^^^ ·) L L = List.replicate L.length 0 := by
    intro L
    induction L with
    | nil => rfl
    | cons a r ih => simp only [List.zipWith_cons_cons, Nat.xor_self, ih]; rfl
  have h3 : List.zipWith (· ^^^ ·) (A ++ [x] ++ Z) (A ++ [y] ++ Z) = List.replicate A.length 0 ++ [x ^^^ y] ++ List.replicate Z.length 0 := by
    rw [List.zipWith_append (by simp), List.zipWith_append rfl, hz, hz]
    rfl
  rw [h3] at h2
  refine Crc.reg_one _ _ _ (Nat.xor_lt_two_pow (n := 8) hx hy) (fun e => hne ?_) h2
  have := congrArg (· ^^^ y) e
  simpa [Nat.xor_assoc] using this

/-- Byte j is v. -/
def setB (s : ByteArray) (j : Nat) (v : UInt8) : ByteArray := ⟨s.data.setIfInBounds j v⟩
theorem setB_size (s : ByteArray) (j : Nat) (v : UInt8) : (setB s j v).size = s.size := by show (s.data.setIfInBounds j v).size = _; simp
theorem setB_left (a b : ByteArray) (j : Nat) (v : UInt8) (h : j < a.size) : setB (a ++ b) j v = setB a j v ++ b := by
  apply ByteArray.ext
  show (a ++ b).data.setIfInBounds j v = (setB a j v ++ b).data
  rw [ByteArray.data_append, ByteArray.data_append, Array.setIfInBounds_append, if_pos (show j < a.data.size from h)]
  rfl
theorem setB_right (a b : ByteArray) (j : Nat) (v : UInt8) (h : a.size ≤ j) : setB (a ++ b) j v = a ++ setB b (j - a.size) v := by
  apply ByteArray.ext
  show (a ++ b).data.setIfInBounds j v = (a ++ setB b (j - a.size) v).data
  rw [ByteArray.data_append, ByteArray.data_append, Array.setIfInBounds_append, if_neg (show ¬ j < a.data.size from by show ¬ j < a.size; omega)]
  rfl
/-- A byte parts a text. -/
theorem parts_at (s : ByteArray) (j : Nat) (hj : j < s.size) (v : UInt8) : ∃ A Z : List UInt8, A.length = j ∧ s.data.toList = A ++ [s[j]] ++ Z ∧ (setB s j v).data.toList = A ++ [v] ++ Z := by
  refine ⟨s.data.toList.take j, s.data.toList.drop (j + 1), by rw [List.length_take]; exact Nat.min_eq_left (Nat.le_of_lt hj), ?_, ?_⟩
  · rw [List.append_assoc]
    have h : s.data.toList[j]'hj :: s.data.toList.drop (j + 1) = s.data.toList.drop j := List.getElem_cons_drop (h := hj)
    show _ = _ ++ (s.data.toList[j]'hj :: s.data.toList.drop (j + 1))
    rw [h, List.take_append_drop]
  · show (s.data.setIfInBounds j v).toList = _
    rw [Array.toList_setIfInBounds, List.set_eq_take_append_cons_drop, if_pos (by exact hj)]
    simp
theorem setB_ne (s : ByteArray) (j : Nat) (hj : j < s.size) (v : UInt8) (hv : v ≠ s[j]) : setB s j v ≠ s := by
  obtain ⟨A, Z, hA, h1, h2⟩ := parts_at s j hj v
  intro e
  rw [e, h1] at h2
  have := List.append_cancel_right h2
  have := List.append_cancel_left this
  exact hv (by simpa using this.symm)
theorem sumB_inj {a b : ByteArray} (h : sumB a = sumB b) : Crc.more 0 (bts a) = Crc.more 0 (bts b) := by
  have h2 : Oct.fixB (Crc.more 0 (bts a)) 4 = Oct.fixB (Crc.more 0 (bts b)) 4 := by
    have := congrArg (fun x : ByteArray => x.data.toList) h
    simpa [sumB, str] using this
  have h3 := congrArg (Oct.numFrom 0) h2
  rw [Oct.numFrom_fixB, Oct.numFrom_fixB] at h3
  have l1 := Crc.more_lt 0 (bts a)
  have l2 := Crc.more_lt 0 (bts b)
  omega
theorem sumB_turn (s : ByteArray) (j : Nat) (hj : j < s.size) (v : UInt8) (hv : v ≠ s[j]) : sumB s ≠ sumB (setB s j v) := by
  intro e
  have e := sumB_inj e
  obtain ⟨A, Z, hA, h1, h2⟩ := parts_at s j hj v
  have b1 : bts s = A.map UInt8.toNat ++ [s[j].toNat] ++ Z.map UInt8.toNat := by unfold bts; rw [h1]; simp
  have b2 : bts (setB s j v) = A.map UInt8.toNat ++ [v.toNat] ++ Z.map UInt8.toNat := by unfold bts; rw [h2]; simp
  rw [b1, b2] at e
  refine Crc.more_turn _ _ _ _ ?_ ?_ (UInt8.toNat_lt _) (UInt8.toNat_lt _) (fun e => hv (UInt8.toNat.inj e).symm) e
  · intro c hc; simp only [List.mem_map] at hc; obtain ⟨u, _, rfl⟩ := hc; exact UInt8.toNat_lt _
  · intro c hc; simp only [List.mem_map] at hc; obtain ⟨u, _, rfl⟩ := hc; exact UInt8.toNat_lt _
end Go.Proofs.YtokghlmffkboiaaGreat
