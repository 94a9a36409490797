/-
  Records come back from their bytes (reeve's layer 20): plain laws, no program in sight.
-/
import Derived.Test.YtokghlmffkboiaaGreatRecOpen
import Derived.Test.YtokghlmffkboiaaGreatFrameSpoilt
namespace Go.Proofs.YtokghlmffkboiaaGreat
open Go.RowKit
set_option linter.unusedVariables false
set_option linter.unusedSimpArgs false

theorem takeAny (n : Int) (h0 : 0 ≤ n) (h1 : n ≤ 9223372036854775807) (r : List UInt8) : Oct.takeVar (varAny n ++ r) = .num n.toNat (varAny n).length := by
  unfold varAny
  rw [if_neg (by omega)]
  exact Oct.takeVar_varB n.toNat (by omega) r
theorem rest_tail (l r : List UInt8) : rest (str (l ++ r)) l.length = r := by unfold rest; rw [str_list, List.drop_left]
theorem ext_tail (l : List UInt8) (k : Nat) : (str l).extract k (str l).size = str (l.drop k) := by
  apply ByteArray.ext
  apply Array.ext'
  simp only [str, ByteArray.data_extract, ByteArray.size, List.extract_toArray, List.extract_eq_take_drop, List.size_toArray]
  rw [List.take_of_length_le (by rw [List.length_drop]; omega)]
theorem sealR_zero {r : List Int} (h : recCheck r = 0) : sealR r = (sealB (str (recB r)), 0) := by unfold sealR; rw [if_pos h]
theorem sealR_err {r : List Int} (h : recCheck r ≠ 0) : sealR r = (⟨#[]⟩, recCheck r) := by unfold sealR; rw [if_neg h]
/-- A record's body is read as it. -/
theorem read_recB (r : List Int) (hr : r.length = 10) (hw : wfI (r.drop 2)) (h : recCheck r = 0) : readL (str (recB r)) = (r, 0) := by
  obtain ⟨h1, h2, h3⟩ := recCheck_zero h
  obtain ⟨q, t, k, n, j, i, p, x, y, z, rfl⟩ := ten_of hr
  have h1 : 1 ≤ q ∧ q ≤ 2147483647 := h1
  have h2 : 1 ≤ t ∧ t ≤ 4294967295 := h2
  have h3 : checkL [k, n, j, i, p, x, y, z] = 0 := h3
  have hw : wfI [k, n, j, i, p, x, y, z] := hw
  have hB : recB [q, t, k, n, j, i, p, x, y, z] = varAny q ++ (varAny t ++ putB [k, n, j, i, p, x, y, z]) := by
    show varAny q ++ varAny t ++ putB _ = _
    rw [List.append_assoc]; rfl
  have hg := get_put [k, n, j, i, p, x, y, z] rfl hw h3 []
  rw [if_pos rfl, List.append_nil] at hg
  have e1 : Oct.takeVar (rest (str (recB [q, t, k, n, j, i, p, x, y, z])) 0) = .num q.toNat (varAny q).length := by
    rw [rest_str, hB]; exact takeAny q (by omega) (by omega) _
  have e2 : Oct.takeVar (rest (str (recB [q, t, k, n, j, i, p, x, y, z])) (0 + (varAny q).length)) = .num t.toNat (varAny t).length := by
    rw [hB, Nat.zero_add, rest_tail]; exact takeAny t (by omega) (by omega) _
  have e3 : (str (recB [q, t, k, n, j, i, p, x, y, z])).extract (0 + (varAny q).length + (varAny t).length) (str (recB [q, t, k, n, j, i, p, x, y, z])).size = str (putB [k, n, j, i, p, x, y, z]) := by
    rw [ext_tail, hB, Nat.zero_add, ← List.append_assoc, ← List.length_append, List.drop_left]
  have q1 : ((q.toNat : Nat) : Int) = q := by omega
  have q2 : ((t.toNat : Nat) : Int) = t := by omega
  unfold readL
  rw [e1]
  rw [if_neg (show ¬ (tookE (.num q.toNat (varAny q).length) ≠ 0) by simp [tookE])]
  rw [show tookLen (.num q.toNat (varAny q).length) = (varAny q).length from rfl, e2]
  rw [if_neg (show ¬ (tookE (.num t.toNat (varAny t).length) ≠ 0) by simp [tookE])]
  rw [show tookLen (.num t.toNat (varAny t).length) = (varAny t).length from rfl, e3, hg]
  rw [show tookN (.num q.toNat (varAny q).length) = q from q1, show tookN (.num t.toNat (varAny t).length) = t from q2]
  rw [if_neg (by simp), h, if_neg (by simp)]
theorem recB_size (r : List Int) (hw : wfI (r.drop 2)) (h : recCheck r = 0) : (str (recB r)).size ≤ 200 := by
  rw [str_size]
  have := recB_le r h hw
  omega
theorem openR_seal (r : List Int) (hr : r.length = 10) (hw : wfI (r.drop 2)) (h : recCheck r = 0) (t : ByteArray) : openR (sealB (str (recB r)) ++ t) = (r, (sealB (str (recB r))).size, 0) := by
  unfold openR
  rw [open_seal _ (recB_size r hw h) t, sealB_size]
  rw [if_neg (by simp), read_recB r hr hw h, if_neg (by simp)]
theorem openR_err (s : ByteArray) (h : (openF s).2.2 ≠ 0) : openR s = (zeroR, 0, (openF s).2.2) := by unfold openR; rw [if_pos h]
end Go.Proofs.YtokghlmffkboiaaGreat
