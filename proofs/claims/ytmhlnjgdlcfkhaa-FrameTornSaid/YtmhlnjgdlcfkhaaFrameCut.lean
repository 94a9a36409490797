/-
  A text of frames that is cut off anywhere, or spoilt in a byte (reeve's layer 4): the plain law.
-/
import Derived.Test.YtmhlnjgdlcfkhaaFrameSpoilt
namespace Go.Proofs.Ytmhlnjgdlcfkhaa
open Go.RowKit
set_option linter.unusedVariables false
set_option linter.unusedSimpArgs false

theorem frames_append (a b : List ByteArray) : frames (a ++ b) = frames a ++ frames b := by
  induction a with
  | nil => show frames b = ByteArray.empty ++ frames b; simp
  | cons x r ih => show sealB x ++ frames (r ++ b) = sealB x ++ frames r ++ frames b; rw [ih, ByteArray.append_assoc]
/-- Where frame i begins. -/
def endE (bs : List ByteArray) (i : Nat) : Nat := (frames (bs.take i)).size
theorem endE_zero (bs : List ByteArray) : endE bs 0 = 0 := rfl
theorem frames_take (bs : List ByteArray) (i : Nat) (h : i < bs.length) : frames (bs.take (i + 1)) = frames (bs.take i) ++ sealB bs[i] := by
  rw [List.take_succ_eq_append_getElem h, frames_append]
  show frames (bs.take i) ++ (sealB bs[i] ++ ByteArray.empty) = _
  simp
theorem endE_succ (bs : List ByteArray) (i : Nat) (h : i < bs.length) : endE bs (i + 1) = endE bs i + (bs[i].size + 7) := by
  unfold endE
  rw [frames_take bs i h, ByteArray.size_append, sealB_size]
theorem endE_len (bs : List ByteArray) : endE bs bs.length = (frames bs).size := by unfold endE; rw [List.take_length]
theorem frames_parts (bs : List ByteArray) (i : Nat) : frames bs = frames (bs.take i) ++ frames (bs.drop i) := by rw [← frames_append, List.take_append_drop]
theorem frames_at (bs : List ByteArray) (i : Nat) (h : i < bs.length) : frames bs = frames (bs.take i) ++ (sealB bs[i] ++ frames (bs.drop (i + 1))) := by
  conv => lhs; rw [frames_parts bs i]
  congr 1
  rw [← List.getElem_cons_drop (h := h)]
  rfl
theorem open_none {t : ByteArray} (h : t.size = 0) : (openF t).2.2 ≠ 0 := by unfold openF; rw [if_pos h]; decide
theorem extract_left (a b : ByteArray) (c : Nat) (h : a.size ≤ c) : (a ++ b).extract 0 c = a ++ b.extract 0 (c - a.size) := by
  rw [ByteArray.extract_append, Nat.zero_sub]
  congr 1
  apply ByteArray.ext
  apply Array.ext'
  rw [ByteArray.data_extract, Array.toList_extract, List.extract_eq_take_drop, List.drop_zero, Nat.sub_zero]
  exact List.take_of_length_le h
theorem extract_in (a b : ByteArray) (c : Nat) (h : c ≤ a.size) : (a ++ b).extract 0 c = a.extract 0 c := by
  rw [ByteArray.extract_append, show b.extract (0 - a.size) (c - a.size) = ByteArray.empty by
    rw [Nat.zero_sub, show c - a.size = 0 by omega]
    apply ByteArray.ext
    apply Array.eq_empty_of_size_eq_zero
    show (b.extract 0 0).size = 0
    rw [ByteArray.size_extract]; omega]
  simp
theorem cut_law (bs : List ByteArray) (hb : ∀ b ∈ bs, b.size ≤ 200) (c w : Nat) (hc : c ≤ (frames bs).size) (hw : w ≤ bs.length) (h1 : endE bs w ≤ c) (h2 : w = bs.length ∨ c < endE bs (w + 1)) :
    allG ((frames bs).extract 0 c) 0 = (bs.take w, endE bs w) := by
  have key : ∃ T : ByteArray, (frames bs).extract 0 c = frames (bs.take w) ++ T ∧ (openF T).2.2 ≠ 0 := by
    by_cases hl : w = bs.length
    · subst hl
      rw [endE_len] at h1
      refine ⟨ByteArray.empty, ?_, open_none rfl⟩
      rw [List.take_length, show c = (frames bs).size by omega, ByteArray.extract_zero_size]
      simp
    · have hlt : w < bs.length := by omega
      have h3 : c < endE bs (w + 1) := by rcases h2 with h | h <;> omega
      rw [endE_succ bs w hlt] at h3
      refine ⟨(sealB bs[w]).extract 0 (c - endE bs w), ?_, open_torn _ (hb _ (List.getElem_mem hlt)) _ (by omega)⟩
      rw [frames_at bs w hlt, extract_left _ _ _ h1]
      congr 1
      exact extract_in _ _ _ (by rw [sealB_size]; show c - endE bs w ≤ _; omega)
  obtain ⟨T, hT, ho⟩ := key
  rw [hT]
  have := allG_frames (bs.take w) ByteArray.empty T (fun b h => hb b (List.mem_of_mem_take h)) ho
  rw [show ByteArray.empty ++ frames (bs.take w) ++ T = frames (bs.take w) ++ T by simp, show ByteArray.empty.size = 0 from rfl, Nat.zero_add] at this
  exact this
theorem spoilt_law (bs : List ByteArray) (hb : ∀ b ∈ bs, b.size ≤ 200) (k a : Nat) (ha : a < bs.length) (h1 : endE bs a ≤ k) (h2 : k < endE bs (a + 1)) (n1 : k - endE bs a ≠ 1) (n2 : k - endE bs a ≠ 2) (v : UInt8) (hv : ∀ h, v ≠ (frames bs)[k]'h) :
    allG (setB (frames bs) k v) 0 = (bs.take a, endE bs a) := by
  rw [endE_succ bs a ha] at h2
  have hf := frames_at bs a ha
  have hk : k < (frames bs).size := by rw [hf, ByteArray.size_append, ByteArray.size_append, sealB_size]; show k < endE bs a + _; omega
  have hj : k - endE bs a < (sealB bs[a]).size := by rw [sealB_size]; omega
  have e : setB (frames bs) k v = frames (bs.take a) ++ (setB (sealB bs[a]) (k - endE bs a) v ++ frames (bs.drop (a + 1))) := by
    rw [hf, setB_right _ _ k v h1]
    congr 1
    exact setB_left _ _ _ v hj
  have hval : ∀ (h : k - endE bs a < (sealB bs[a]).size), v ≠ (sealB bs[a])[k - endE bs a]'h := by
    intro h hh
    apply hv hk
    rw [hh]
    have g : (frames bs)[k] = (frames (bs.take a) ++ (sealB bs[a] ++ frames (bs.drop (a + 1))))[k]'(by rw [← hf]; exact hk) := by congr 1
    rw [g, ByteArray.getElem_append_right h1]
    exact (ByteArray.getElem_append_left (show k - (frames (bs.take a)).size < (sealB bs[a]).size from hj)).symm
  rw [e]
  have := allG_frames (bs.take a) ByteArray.empty (setB (sealB bs[a]) (k - endE bs a) v ++ frames (bs.drop (a + 1))) (fun b h => hb b (List.mem_of_mem_take h)) (open_spoilt bs[a] (hb _ (List.getElem_mem ha)) _ _ (by rw [sealB_size] at hj; exact hj) n1 n2 v hval)
  rw [ByteArray.empty_append, show ByteArray.empty.size = 0 from rfl, Nat.zero_add] at this
  exact this
end Go.Proofs.Ytmhlnjgdlcfkhaa
