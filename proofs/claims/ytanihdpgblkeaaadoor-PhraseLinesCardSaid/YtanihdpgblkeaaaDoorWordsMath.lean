/-
  Lines and words (reeve's layer 6): plain laws, no program in sight.
-/
import Derived.Test.YtanihdpgblkeaaaDoorStrRow
import Derived.Lib.SplitLaws
import Derived.Lib.Join
import Derived.Lib.Strings
namespace Go.Proofs.YtanihdpgblkeaaaDoor
open Go.RowKit
set_option linter.unusedVariables false
set_option linter.unusedSimpArgs false

/-- A text of bytes. -/
def strL (l : List UInt8) : ByteArray := ⟨l.toArray⟩
theorem strL_list (l : List UInt8) : (strL l).data.toList = l := rfl
theorem strL_size (l : List UInt8) : (strL l).size = l.length := by simp [strL, ByteArray.size]
theorem strL_of (s : ByteArray) : strL s.data.toList = s := by apply ByteArray.ext; simp [strL]
theorem strL_app (a b : List UInt8) : strL (a ++ b) = strL a ++ strL b := by apply ByteArray.ext; simp [strL]
/-- A text cut at each sign. -/
def splitC (c : UInt8) : List UInt8 → List (List UInt8)
  | [] => [[]]
  | x :: r => if x = c then [] :: splitC c r else (x :: (splitC c r).headD []) :: (splitC c r).tail
theorem splitC_ne (c : UInt8) (l : List UInt8) : splitC c l ≠ [] := by
  cases l with
  | nil => simp [splitC]
  | cons x r => unfold splitC; split <;> simp
theorem splitK_one (c : UInt8) : ∀ s : List UInt8, Lib.splitK [c] 0 (s.count c) s = splitC c s
  | [] => rfl
  | x :: r => by
    have ih := splitK_one c r
    by_cases h : x = c
    · subst h
      have hc : (x :: r).count x = r.count x + 1 := by simp
      have hi : Lib.index (x :: r) [x] = 0 := by rw [Lib.index]; simp [List.isPrefixOf]
      rw [hc]
      unfold Lib.splitK splitC
      rw [hi, if_neg (by decide), if_pos rfl, ← ih]
      simp
    · have hc : (x :: r).count c = r.count c := List.count_cons_of_ne (by simpa using h)
      have hix : Lib.index (x :: r) [c] = if Lib.index r [c] == -1 then -1 else Lib.index r [c] + 1 := by rw [Lib.index]; simp [List.isPrefixOf, Ne.symm h]
      rw [hc]
      unfold splitC
      rw [if_neg h, ← ih]
      cases hk : r.count c with
      | zero => simp [Lib.splitK]
      | succ k =>
        unfold Lib.splitK
        by_cases hm : Lib.index r [c] = -1
        · rw [hix, hm]; simp
        · have hge := Lib.index_ge r [c]
          obtain ⟨j, hj⟩ : ∃ j : Nat, Lib.index r [c] = j := ⟨(Lib.index r [c]).toNat, by omega⟩
          have e1 : ((j : Int) == -1) = false := by rw [beq_eq_false_iff_ne]; omega
          have e2 : (((j : Int) + 1) == -1) = false := by rw [beq_eq_false_iff_ne]; omega
          rw [hix, hj]
          simp only [e1, e2, if_false, Bool.false_eq_true]
          have e3 : ((j : Int) + 1).toNat = j + 1 := by omega
          have e4 : ((j : Int)).toNat = j := by omega
          rw [e3, e4]
          simp [List.take_succ_cons]
theorem splitC_count (c : UInt8) : ∀ s : List UInt8, (splitC c s).length = s.count c + 1
  | [] => rfl
  | x :: r => by
    have ih := splitC_count c r
    unfold splitC
    by_cases h : x = c
    · subst h; rw [if_pos rfl]; simp [ih]
    · rw [if_neg h, List.count_cons_of_ne (by simpa using h)]
      simp [ih]
/-- The lines of a text, a byte after the other. -/
def refL (line : List UInt8) (opn : Bool) : List UInt8 → List (List UInt8)
  | [] => if opn then [line] else []
  | x :: r => if x = 10 then line :: refL [] false r else refL (line ++ [x]) true r
def linesL (s : List UInt8) : List (List UInt8) := refL [] false s
theorem refL_len (s : List UInt8) : ∀ (line : List UInt8) (o : Bool), (refL line o s).length ≤ s.length + 1 := by
  induction s with
  | nil => intro line o; cases o <;> simp [refL]
  | cons x r ih =>
    intro line o
    unfold refL
    split
    · have := ih [] false; simp; omega
    · have := ih (line ++ [x]) true; simp; omega
theorem suffix_two (x y : UInt8) (r p : List UInt8) (c : UInt8) (hp : p = [c]) : p.isSuffixOf (x :: y :: r) = p.isSuffixOf (y :: r) := by
  subst hp
  rw [Bool.eq_iff_iff, List.isSuffixOf_iff_suffix, List.isSuffixOf_iff_suffix, List.suffix_cons_iff]
  constructor
  · rintro (h | h)
    · exact absurd h (by simp)
    · exact h
  · exact .inr
theorem trim_two (x y : UInt8) (r : List UInt8) : Lib.trimSuffix (x :: y :: r) [10] = x :: Lib.trimSuffix (y :: r) [10] := by
  unfold Lib.trimSuffix Lib.hasSuffix
  rw [suffix_two x y r [10] 10 rfl]
  split
  · simp
  · rfl
theorem lines_split (s : List UInt8) (h : s ≠ []) : ∀ (line : List UInt8) (o : Bool), refL line o s = (line ++ (splitC 10 (Lib.trimSuffix s [10])).headD []) :: (splitC 10 (Lib.trimSuffix s [10])).tail := by
  induction s with
  | nil => exact absurd rfl h
  | cons x r ih =>
    intro line o
    cases r with
    | nil =>
      by_cases hx : x = 10
      · subst hx
        have : Lib.trimSuffix [10] [10] = [] := by decide
        rw [this]
        simp [refL, splitC]
      · have : Lib.trimSuffix [x] [10] = [x] := by
          unfold Lib.trimSuffix Lib.hasSuffix
          rw [if_neg]
          rw [List.isSuffixOf_iff_suffix]
          intro hs
          have := List.IsSuffix.eq_of_length hs rfl
          injection this with e; exact hx e.symm
        rw [this]
        simp [refL, splitC, hx]
    | cons y r =>
      rw [trim_two]
      have ih := ih (by simp)
      unfold refL
      by_cases hx : x = 10
      · subst hx
        rw [if_pos rfl, ih]
        conv => rhs; unfold splitC
        rw [if_pos rfl]
        have hne := splitC_ne 10 (Lib.trimSuffix (y :: r) [10])
        generalize splitC 10 (Lib.trimSuffix (y :: r) [10]) = T at hne ⊢
        cases T with
        | nil => exact absurd rfl hne
        | cons a t => simp
      · rw [if_neg hx, ih]
        conv => rhs; unfold splitC
        rw [if_neg hx]
        simp
theorem lines_eq (s : List UInt8) (h : s ≠ []) : linesL s = splitC 10 (Lib.trimSuffix s [10]) := by
  unfold linesL
  rw [lines_split s h]
  have hne := splitC_ne 10 (Lib.trimSuffix s [10])
  generalize splitC 10 (Lib.trimSuffix s [10]) = T at hne ⊢
  cases T with
  | nil => exact absurd rfl hne
  | cons a t => simp
/-- Lines as a text. -/
def textL (l : List (List UInt8)) : List UInt8 := l.flatMap (fun x => x ++ [10])
theorem refL_run (x : List UInt8) (hx : ∀ c ∈ x, c ≠ 10) (r : List UInt8) : ∀ (acc : List UInt8) (o : Bool), refL acc o (x ++ 10 :: r) = (acc ++ x) :: refL [] false r := by
  induction x with
  | nil => intro acc o; simp [refL]
  | cons a t ih =>
    intro acc o
    have ha : a ≠ 10 := hx a (by simp)
    rw [List.cons_append]
    conv => lhs; unfold refL
    rw [if_neg ha, ih (fun c hc => hx c (by simp [hc]))]
    simp
theorem lines_text (l : List (List UInt8)) (h : ∀ x ∈ l, ∀ c ∈ x, c ≠ 10) : linesL (textL l) = l := by
  unfold linesL
  induction l with
  | nil => rfl
  | cons x r ih =>
    have e : textL (x :: r) = x ++ 10 :: textL r := by simp [textL]
    rw [e, refL_run x (h x (by simp)), ih (fun y hy => h y (by simp [hy]))]
    simp
/-- A blank. -/
def isB (c : UInt8) : Bool := c == 32 || c == 9
/-- The words of a line, a byte after the other. -/
def refW (w : List UInt8) : List UInt8 → List (List UInt8)
  | [] => if w = [] then [] else [w]
  | x :: r => if x = 35 then (if w = [] then [] else [w]) else if isB x = true then (if w = [] then refW [] r else w :: refW [] r) else refW (w ++ [x]) r
def wordsL (s : List UInt8) : List (List UInt8) := refW [] s
theorem refW_cut (s : List UInt8) : ∀ w, refW w (s.takeWhile (fun c => !(c == 35))) = refW w s := by
  induction s with
  | nil => intro w; rfl
  | cons x r ih =>
    intro w
    by_cases h : x = 35
    · subst h; simp [refW]
    · have h2 : (x == 35) = false := by simpa using h
      rw [List.takeWhile_cons, h2]
      simp only [Bool.not_false, if_true]
      unfold refW
      rw [if_neg h, if_neg h]
      split
      · split
        · exact ih []
        · rw [ih []]
      · exact ih _
theorem refW_blank (s : List UInt8) (hs : ∀ c ∈ s, c ≠ 35) : refW [] (s.dropWhile isB) = refW [] s := by
  induction s with
  | nil => rfl
  | cons x r ih =>
    have hx : x ≠ 35 := hs x (by simp)
    cases hb : isB x with
    | false => rw [List.dropWhile_cons, hb]; simp
    | true =>
      rw [List.dropWhile_cons, hb]
      simp only [if_true]
      rw [ih (fun c hc => hs c (by simp [hc]))]
      conv => rhs; unfold refW
      rw [if_neg hx, hb]
      simp
theorem refW_run (s : List UInt8) (hs : ∀ c ∈ s, c ≠ 35) : ∀ w, w ++ s.takeWhile (fun c => !isB c) ≠ [] → refW w s = (w ++ s.takeWhile (fun c => !isB c)) :: refW [] (s.dropWhile (fun c => !isB c)) := by
  induction s with
  | nil => intro w h; simp at h; simp [refW, h]
  | cons x r ih =>
    intro w h
    have hx : x ≠ 35 := hs x (by simp)
    cases hb : isB x with
    | true =>
      rw [List.takeWhile_cons, hb] at h
      simp only [Bool.not_true, Bool.false_eq_true, if_false, List.append_nil] at h
      rw [List.takeWhile_cons, List.dropWhile_cons, hb]
      simp only [Bool.not_true, Bool.false_eq_true, if_false, List.append_nil]
      unfold refW
      rw [if_neg hx, if_neg hx, hb, if_pos rfl, if_neg h]
      simp
    | false =>
      rw [List.takeWhile_cons, List.dropWhile_cons, hb]
      simp only [Bool.not_false, if_true]
      conv => lhs; unfold refW
      rw [if_neg hx, hb]
      simp only [Bool.false_eq_true, if_false]
      rw [ih (fun c hc => hs c (by simp [hc])) (w ++ [x]) (by simp)]
      simp
theorem refW_word (y : List UInt8) (h : ∀ c ∈ y, c ≠ 35 ∧ isB c = false) (t : List UInt8) : ∀ acc, refW acc (y ++ t) = refW (acc ++ y) t := by
  induction y with
  | nil => intro acc; simp
  | cons a r ih =>
    intro acc
    obtain ⟨h1, h2⟩ := h a (by simp)
    rw [List.cons_append]
    conv => lhs; unfold refW
    rw [if_neg h1, h2]
    simp only [Bool.false_eq_true, if_false]
    rw [ih (fun c hc => h c (by simp [hc]))]
    simp
theorem refW_tail (r : List (List UInt8)) (h : ∀ y ∈ r, y ≠ [] ∧ ∀ c ∈ y, c ≠ 35 ∧ isB c = false) : ∀ w, w ≠ [] → refW w (Lib.joinTail [32] r ++ [32, 35, 32, 120]) = w :: r := by
  induction r with
  | nil =>
    intro w hw
    show refW w [32, 35, 32, 120] = [w]
    simp [refW, isB, hw]
  | cons y r ih =>
    intro w hw
    obtain ⟨h1, h2⟩ := h y (by simp)
    have e : Lib.joinTail [32] (y :: r) = 32 :: (y ++ Lib.joinTail [32] r) := by simp [Lib.joinTail]
    rw [e, List.cons_append, List.append_assoc]
    unfold refW
    rw [if_neg (by decide), if_pos (by decide), if_neg hw, refW_word y h2, List.nil_append, ih (fun z hz => h z (by simp [hz])) y h1]
theorem words_join (l : List (List UInt8)) (h : ∀ y ∈ l, y ≠ [] ∧ ∀ c ∈ y, c ≠ 35 ∧ isB c = false) : wordsL (9 :: (Lib.join l [32] ++ [32, 35, 32, 120])) = l := by
  unfold wordsL
  unfold refW
  rw [if_neg (by decide), if_pos (by decide), if_pos rfl]
  cases l with
  | nil => rw [Lib.join_nil]; simp [refW, isB]
  | cons x r =>
    obtain ⟨h1, h2⟩ := h x (by simp)
    rw [Lib.join_cons, List.append_assoc, refW_word x h2, List.nil_append]
    exact refW_tail r (fun y hy => h y (by simp [hy])) x h1
theorem refW_len (s : List UInt8) : ∀ w, (refW w s).length ≤ s.length + 1 := by
  induction s with
  | nil => intro w; unfold refW; split <;> simp
  | cons x r ih =>
    intro w
    have h1 := ih []
    have h2 := ih (w ++ [x])
    unfold refW
    repeat (first | split | (simp only [List.length_cons, List.length_nil]; omega))
end Go.Proofs.YtanihdpgblkeaaaDoor
