/-
  A text with one byte turned: as numbers, and as a text again.
-/
import Derived.Test.YtokghlmffkboiaaFrameTornMath
import Derived.Lib.ConvBytes
import Derived.Laws.BytesArg
namespace Go.Proofs.Ytokghlmffkboiaa
open Go.RowKit
set_option linter.unusedVariables false
set_option linter.unusedSimpArgs false

/-- What byte k is. -/
def byteN (s : ByteArray) (k : Nat) : Nat := (s.data.toList.getD k 0).toNat
theorem byteN_lt (s : ByteArray) (k : Nat) : byteN s k < 256 := UInt8.toNat_lt _
/-- Byte k, turned. -/
def turned (s : ByteArray) (k t : Nat) : UInt8 := UInt8.ofNat (byteN s k ^^^ t)
theorem turned_nat (s : ByteArray) (k t : Nat) (ht : t < 256) : (turned s k t).toNat = byteN s k ^^^ t := by
  unfold turned
  rw [UInt8.toNat_ofNat']
  exact Nat.mod_eq_of_lt (Nat.xor_lt_two_pow (n := 8) (byteN_lt s k) ht)
theorem turned_ne (s : ByteArray) (k t : Nat) (ht : t < 256) (h0 : t ≠ 0) (hk : k < s.size) : turned s k t ≠ s[k] := by
  intro h
  have h1 := congrArg UInt8.toNat h
  rw [turned_nat s k t ht] at h1
  have h2 : byteN s k = s[k].toNat := by
    unfold byteN
    rw [List.getD_eq_getElem?_getD, List.getElem?_eq_getElem (show k < s.data.toList.length from hk)]
    rfl
  rw [h2] at h1
  have h3 := congrArg (fun x => s[k].toNat ^^^ x) h1
  simp only [← Nat.xor_assoc, Nat.xor_self, Nat.zero_xor] at h3
  exact h0 h3
/-- The numbers behind the turn. -/
def turnNums (s : ByteArray) (k t : Nat) : List Int := (setB s k (turned s k t)).data.toList.map (fun c => (c.toNat : Int))
theorem turn_length (s : ByteArray) (k t : Nat) : (turnNums s k t).length = s.size := by
  unfold turnNums
  rw [List.length_map]
  exact setB_size s k _
theorem turn_back (s : ByteArray) (k t : Nat) : strOfNums (turnNums s k t) = setB s k (turned s k t) := by
  apply ByteArray.ext
  apply Array.ext'
  rw [strOfNums_data]
  unfold turnNums
  rw [List.map_map]
  conv => rhs; rw [← List.map_id (setB s k (turned s k t)).data.toList]
  apply List.map_congr_left
  intro c _
  simp
theorem turn_same (s : ByteArray) (k t : Nat) (ht : t < 256) (hk : k < s.size) : (turnNums s k t).getD k 0 = ((byteN s k ^^^ t : Nat) : Int) := by
  rw [← turned_nat s k t ht]
  unfold turnNums setB
  rw [List.getD_eq_getElem?_getD, List.getElem?_map, Array.toList_setIfInBounds, List.getElem?_set_self (show k < s.data.toList.length from hk)]
  rfl
theorem turn_other (s : ByteArray) (k t j : Nat) (hj : j < s.size) (hne : ¬ j = k) : (turnNums s k t).getD j 0 = ((byteN s j : Nat) : Int) := by
  unfold turnNums setB byteN
  rw [List.getD_eq_getElem?_getD, List.getElem?_map, Array.toList_setIfInBounds, List.getElem?_set_ne (fun e => hne e.symm), List.getD_eq_getElem?_getD, List.getElem?_eq_getElem (show j < s.data.toList.length from hj)]
  rfl
/-- The block that '[]byte(s)' makes. -/
theorem bytes_cell (w : World) (e : TypeId) (s : ByteArray) : ∀ j, j < s.size → (Lib.bytesWorld w e s).cell? ⟨w.heap.size, j, none⟩ = some (.int .u8 (byteN s j : Nat)) ∧ (Lib.bytesWorld w e s).frozen? ⟨w.heap.size, j, none⟩ = false := by
  intro j hj
  refine ⟨Lib.bytesWorld_cell w _ s j hj, ?_⟩
  have h := Lib.bytesWorld_at_new w e s
  have h2 : s.size ≤ (Lib.bytesCells w e s).size := by unfold Lib.bytesCells; rw [Array.size_append, Array.size_map]; exact Nat.le_add_right _ _
  unfold World.frozen?
  rw [h]
  simp; omega
theorem bytes_below (w : World) (e : TypeId) (s : ByteArray) : Below w.heap.size w (Lib.bytesWorld w e s) := ⟨rfl, rfl, rfl, by rw [Lib.bytesWorld_size]; omega, fun j hj => Lib.bytesWorld_at_old w _ s j hj⟩
/-- The cells behind the store: as the turned numbers. -/
theorem turn_cells (w : World) (g : Nat) (s : ByteArray) (k t : Nat) (ht : t < 256) (hk : k < s.size) (h : ∀ j, j < s.size → w.cell? ⟨g, j, none⟩ = some (.int .u8 (byteN s j : Nat))) :
    ∀ j, j < s.size → (w.setCell ⟨g, k, none⟩ (.int .u8 ((byteN s k ^^^ t : Nat) : Int))).cell? ⟨g, 0 + j, none⟩ = some (.int .u8 ((turnNums s k t).getD j 0)) := by
  intro j hj
  rw [Nat.zero_add]
  by_cases hjk : j = k
  · subst hjk
    rw [turn_same s j t ht hk]
    exact World.cell?_setCell_same _ _ _ (h j hj)
  · rw [turn_other s k t j hj hjk]
    exact (World.cell?_setCell_other _ ⟨g, k, none⟩ ⟨g, j, none⟩ _ (by simp <;> omega)).trans (h j hj)
end Go.Proofs.Ytokghlmffkboiaa
