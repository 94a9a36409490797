/-
  Messages as texts (reeve's layer 36): texts of many messages: the plain law.
-/
import Derived.Test.YtanihdpgblkeaaaGreatDoorLetterMath
import Derived.Test.YtanihdpgblkeaaaGreatDoorTextsMath
namespace Go.Proofs.YtanihdpgblkeaaaGreatDoor
open Go.RowKit
set_option linter.unusedVariables false
set_option linter.unusedSimpArgs false

theorem lineM_len (l : List Int) (hw : wfI l) : (lineM l).1.length ≤ 1000 := by
  unfold lineM
  split
  · have h := rowL_len (headM l) (namesWM (fld l 0)) (numsM l) (headM_len _) (namesWM_len _).2 (numsM_in hw)
    have := (namesWM_len (fld l 0)).1
    simp only; omega
  · simp
theorem kindWM_no10 (k : Int) : ∀ c ∈ kindWM k, c ≠ 10 := by
  unfold kindWM
  repeat' split
  all_goals decide
theorem partWM_no10 (o : Nat) : ∀ c ∈ partWM o, c ≠ 10 := by
  unfold partWM
  repeat' split
  all_goals decide
theorem nameM_no10 (n : Int) : ∀ c ∈ nameM n, c ≠ 10 := by
  intro c hc
  unfold nameM at hc
  have hp := place_cases n
  rcases hp with ⟨h1, _⟩ | ⟨h1, _⟩ | ⟨h1, _⟩ | ⟨h1, _⟩ <;> rw [h1] at hc <;> simp at hc
  · rcases hc with rfl | hc
    · decide
    · exact itoa_no10 _ c hc
  · rcases hc with rfl | hc
    · decide
    · exact itoa_no10 _ c hc
  · subst hc; decide
theorem headM_no10 (l : List Int) : ∀ c ∈ headM l, c ≠ 10 := by
  intro c hc
  unfold headM at hc
  rw [join_cons_] at hc
  simp [Lib.joinTail] at hc
  rcases hc with hc | rfl | hc | rfl | hc
  · exact kindWM_no10 _ c hc
  · decide
  · exact nameM_no10 _ c hc
  · decide
  · exact nameM_no10 _ c hc
theorem lineM_no10 (l : List Int) : ∀ c ∈ (lineM l).1, c ≠ 10 := by
  unfold lineM
  split
  · refine rowL_no10 _ _ (headM_no10 _) (fun a ha => ?_) _
    unfold namesWM at ha
    rw [List.mem_map] at ha
    obtain ⟨o, _, rfl⟩ := ha
    exact partWM_no10 o
  · intro c hc; cases hc
theorem lineM_words (l : List Int) (h : checkM l = 0) : wordsL (lineM l).1 ≠ [] := by
  rw [lineM_split l h]; simp
theorem refL_end (x : List UInt8) (hx : ∀ c ∈ x, c ≠ 10) : ∀ acc : List UInt8, refL acc true x = [acc ++ x] := by
  induction x with
  | nil => intro acc; simp [refL]
  | cons a t ih =>
    intro acc
    unfold refL
    rw [if_neg (hx a (by simp)), ih (fun c hc => hx c (by simp [hc]))]
    simp
theorem lines_wrap (ls : List (List UInt8)) (h : ∀ x ∈ ls, ∀ c ∈ x, c ≠ 10) : linesL ([10] ++ textL ls ++ [35]) = ([] :: ls) ++ [[35]] := by
  have hr : ∀ ls : List (List UInt8), (∀ x ∈ ls, ∀ c ∈ x, c ≠ 10) → refL [] false (textL ls ++ [35]) = ls ++ [[35]] := by
    intro ls
    induction ls with
    | nil => intro _; simp [textL, refL]
    | cons x r ih =>
      intro h
      have e : textL (x :: r) ++ [35] = x ++ 10 :: (textL r ++ [35]) := by simp [textL]
      rw [e, refL_run x (h x (by simp)), ih (fun y hy => h y (by simp [hy]))]
      simp
  show refL [] false ([10] ++ textL ls ++ [35]) = _
  rw [List.append_assoc, List.singleton_append]
  unfold refL
  rw [if_pos rfl, hr ls h]
  rfl
/-- Messages that may be come back from their text. -/
theorem msgs_back (L : List (List Int)) (h : ∀ l ∈ L, wfI l ∧ checkM l = 0) : textG lineM [] L = (textL (L.map (fun l => (lineM l).1)), 0) ∧ allG parseM [] 0 (linesL ([10] ++ textL (L.map (fun l => (lineM l).1)) ++ [35])) = (L, 0, 0) := by
  refine ⟨?_, ?_⟩
  · rw [textG_good]
    · rfl
    · intro l hl; unfold lineM; rw [if_pos (h l hl).2]
  · rw [lines_wrap _ (fun x hx => by rw [List.mem_map] at hx; obtain ⟨l, _, rfl⟩ := hx; exact lineM_no10 l), List.cons_append]
    unfold allG
    rw [if_pos (by rfl)]
    have := allG_good parseM (fun l => (lineM l).1) L [[35]] [] 1 (fun l hl => ⟨lineM_words l (h l hl).2, parse_lineM l (h l hl).1 (h l hl).2⟩) (by intro x hx; simp at hx; subst hx; rfl)
    rw [this]; rfl
end Go.Proofs.YtanihdpgblkeaaaGreatDoor
