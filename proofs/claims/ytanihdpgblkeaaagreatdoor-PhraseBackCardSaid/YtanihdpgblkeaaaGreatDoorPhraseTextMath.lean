/-
  Events as texts (reeve's layer 19): texts of many events: the plain law.
-/
import Derived.Test.YtanihdpgblkeaaaGreatDoorPhraseMath
import Derived.Test.YtanihdpgblkeaaaGreatDoorTextsMath
namespace Go.Proofs.YtanihdpgblkeaaaGreatDoor
open Go.RowKit
set_option linter.unusedVariables false
set_option linter.unusedSimpArgs false

theorem firstK_length {ws : List (List UInt8)} : ∀ (n k : Nat) (v : List Int), firstK ws k n = some v → v.length = 8 := by
  intro n
  induction n with
  | zero => intro k v h; cases h
  | succ n ih =>
    intro k v h
    unfold firstK at h
    cases hp : parseK k ws with
    | some u =>
      rw [hp] at h
      injection h with h
      subst h
      unfold parseK at hp
      split at hp
      · split at hp
        · injection hp with hp; subst hp; rw [layZ_length]; rfl
        · cases hp
      · cases hp
    | none => rw [hp] at h; exact ih _ _ h
theorem parseR_length (ws : List (List UInt8)) : (parseR ws).1.length = 8 := by
  unfold parseR
  cases h : firstK ws 1 7 with
  | some v => exact firstK_length _ _ _ h
  | none => rfl
theorem lineR_len (l : List Int) (hw : wfI l) : (lineR l).1.length ≤ 1000 := by
  unfold lineR
  split
  · have h := rowL_len (kindW (fld l 0)) (namesW (fld l 0)) (numsL l) (kindW_len _) (namesW_len _).2 (numsL_in hw)
    have := (namesW_len (fld l 0)).1
    simp only; omega
  · simp
theorem kindW_no10 (k : Int) : ∀ c ∈ kindW k, c ≠ 10 := by
  unfold kindW
  repeat' split
  all_goals decide
theorem partW_no10 (o : Nat) : ∀ c ∈ partW o, c ≠ 10 := by
  unfold partW
  repeat' split
  all_goals decide
theorem lineR_no10 (l : List Int) : ∀ c ∈ (lineR l).1, c ≠ 10 := by
  unfold lineR
  split
  · refine rowL_no10 _ _ (kindW_no10 _) (fun a ha => ?_) _
    unfold namesW at ha
    rw [List.mem_map] at ha
    obtain ⟨o, _, rfl⟩ := ha
    exact partW_no10 o
  · intro c hc; cases hc
theorem lineR_words (l : List Int) (h : checkL l = 0) : wordsL (lineR l).1 ≠ [] := by
  have hk := check_kind_p h
  obtain ⟨kn, hkn⟩ : ∃ kn : Nat, fld l 0 = kn := ⟨(fld l 0).toNat, by omega⟩
  obtain ⟨p1, p2⟩ := kindW_plain (k := kn) (by omega)
  have e : (lineR l).1 = rowL (kindW kn) (namesW kn) (numsL l) := by unfold lineR; rw [if_pos h, hkn]
  rw [e, row_words _ _ _ p1 p2 (namesW_plain _)]
  simp
/-- Events that may be come back from their text. -/
theorem events_back (L : List (List Int)) (h : ∀ l ∈ L, wfI l ∧ checkL l = 0) : textG lineR [] L = (textL (L.map (fun l => (lineR l).1)), 0) ∧ allG parseR [] 0 (linesL ([35, 10] ++ textL (L.map (fun l => (lineR l).1)) ++ [10])) = (L, 0, 0) := by
  refine ⟨?_, back_all parseR (fun l => (lineR l).1) L (fun l hl => ⟨lineR_words l (h l hl).2, parse_line l (h l hl).1 (h l hl).2⟩) (fun l _ => lineR_no10 l)⟩
  rw [textG_good]
  · rfl
  · intro l hl; unfold lineR; rw [if_pos (h l hl).2]
end Go.Proofs.YtanihdpgblkeaaaGreatDoor
