/-
  StrRow, WordsMath, Words, WordsRest, WordsRef, WordsRefL, Awake06, WordsIn in one text.
-/
import Derived.Test.YtanihdpgblkeaaaGreatDoorMem
import Derived.Laws.AppendOwn
import Derived.Maps.AppendAt
import Derived.BigQuiet
import Derived.Lib.SplitLaws
import Derived.Lib.Join
import Derived.Lib.Strings
import Derived.Test.YtanihdpgblkeaaaGreatDoorShelf
import Derived.WalkMore
import Derived.Lib.SlicesS
/-! StrRow -/
namespace Go.Proofs.YtanihdpgblkeaaaGreatDoor
open Go.RowKit
set_option linter.unusedVariables false
set_option linter.unusedSimpArgs false

theorem below_drewN (w : World) (n : Nat) : Below w.heap.size w (w.drewN n) := ⟨rfl, rfl, rfl, Nat.le_refl _, fun _ _ => rfl⟩
/-- A row of texts of the call's own. -/
def OwnS (B : Nat) (w : World) (v : Value) (l : List ByteArray) : Prop := w.ownsRow B 9 1 v l.length (l.map Value.string)
theorem OwnS.nil (B : Nat) (w : World) : OwnS B w (.slice none 0 0) [] := ⟨rfl, .inl ⟨rfl, rfl⟩⟩
theorem OwnS.below {B C : Nat} {w w' : World} {v : Value} {l : List ByteArray} (h : OwnS B w v l) (hb : Below C w w') (hC : w.heap.size ≤ C) : OwnS B w' v l := by
  obtain ⟨h1, h2 | ⟨g, cap, cur, rfl, hg, hh, rest⟩⟩ := h
  · exact ⟨h1, .inl h2⟩
  · refine ⟨h1, .inr ⟨g, cap, cur, rfl, hg, ?_, rest⟩⟩
    rw [← hh]
    exact hb.block g (Nat.lt_of_lt_of_le (Array.getElem?_eq_some_iff.1 hh).1 hC)

theorem OwnS.gby {B : Nat} {w0 w1 w2 : World} {v : Value} {l : List ByteArray} (h : OwnS B w1 v l) (hb : Below B w0 w1) (hB : B ≤ w1.heap.size) (hg : w1.grownBy w2 v.ownBlock) : Below B w0 w2 := by
  refine hb.trans ⟨hg.os, hg.tape, hg.output, hg.size, fun k hk => hg.block k (Nat.lt_of_lt_of_le hk hB) (fun e => ?_)⟩
  obtain ⟨_, ⟨rfl, _⟩ | ⟨g, cap, cur, rfl, hg1, _⟩⟩ := h
  · cases e
  · have : g = k := by have e2 := e.symm; simpa [Value.ownBlock] using e2
    omega
theorem OwnS.mk {B : Nat} {w : World} {v : Value} {l : List ByteArray} {b : ByteArray} (h : w.ownsRow B 9 1 v (l.length + 1) (l.map Value.string ++ [Value.string b])) : OwnS B w v (l ++ [b]) := by
  unfold OwnS
  rw [List.length_append, List.map_append]
  exact h

/-- A slice that holds texts. -/
def RowS (w : World) (v : Value) (l : List ByteArray) : Prop :=
  (∃ p cap, v = .slice p 0 cap ∧ l = []) ∨ ∃ b off cap, v = .slice (some ⟨b, off, none⟩) l.length cap ∧ b < w.heap.size ∧ (∀ j x, l[j]? = some x → w.cell? ⟨b, off + j, none⟩ = some (.string x)) ∧ l.length ≤ cap
theorem OwnS.row {B : Nat} {w : World} {v : Value} {l : List ByteArray} (h : OwnS B w v l) : RowS w v l := by
  have hc := fun g (hg : v.ownBlock = some g) => World.ownsRow.cells h (g := g) hg
  obtain ⟨h1, ⟨rfl, h2⟩ | ⟨g, cap, cur, rfl, hg, hh, hnc, _⟩⟩ := h
  · exact .inl ⟨none, 0, rfl, List.eq_nil_of_length_eq_zero h2⟩
  · refine .inr ⟨g, 0, cap, rfl, (Array.getElem?_eq_some_iff.1 hh).1, fun j x hj => ?_, hnc⟩
    have := hc g rfl j (.string x) (by rw [List.getElem?_map, hj]; rfl)
    rw [Nat.zero_add]; have e : (⟨g, 0, none⟩ : Addr).add j = ⟨g, j, none⟩ := by simp [Addr.add]; intro h; exact h.symm
    rw [e] at this; exact this
theorem RowS.below {C : Nat} {w w' : World} {v : Value} {l : List ByteArray} (h : RowS w v l) (hb : Below C w w') (hC : w.heap.size ≤ C) : RowS w' v l := by
  rcases h with h | ⟨b, off, cap, h1, h2, h3, h4⟩
  · exact .inl h
  · exact .inr ⟨b, off, cap, h1, Nat.lt_of_lt_of_le h2 hb.size, fun j x hj => keepB (Below.mono hb hC) (h3 j x hj) h2, h4⟩
/-- What a slice of texts holds, element by element. -/
theorem RowS.at {w : World} {v : Value} {l : List ByteArray} (h : RowS w v l) {j : Nat} (hj : j < l.length) : ∃ b off cap x, v = .slice (some ⟨b, off, none⟩) l.length cap ∧ l[j]? = some x ∧ w.cell? ⟨b, off + j, none⟩ = some (.string x) := by
  rcases h with ⟨_, _, rfl, rfl⟩ | ⟨b, off, cap, h1, h2, h3, _⟩
  · exact absurd hj (by simp)
  · exact ⟨b, off, cap, l[j], h1, List.getElem?_eq_getElem hj, h3 j _ (List.getElem?_eq_getElem hj)⟩
theorem RowS.len {w : World} {v : Value} {l : List ByteArray} (h : RowS w v l) : ∃ p cap, v = .slice p l.length cap := by
  rcases h with ⟨p, cap, rfl, rfl⟩ | ⟨b, off, cap, h1, h2, h3, _⟩
  · exact ⟨p, cap, rfl⟩
  · exact ⟨_, cap, h1⟩
end Go.Proofs.YtanihdpgblkeaaaGreatDoor

/-! WordsMath -/
namespace Go.Proofs.YtanihdpgblkeaaaGreatDoor
open Go.RowKit
set_option linter.unusedVariables false
set_option linter.unusedSimpArgs false

/-- A text of bytes. -/
def strL (l : List UInt8) : ByteArray := ⟨l.toArray⟩
theorem strL_list (l : List UInt8) : (strL l).data.toList = l := rfl
theorem strL_size (l : List UInt8) : (strL l).size = l.length := by simp [strL, ByteArray.size]
theorem strL_of (s : ByteArray) : strL s.data.toList = s := by apply ByteArray.ext; simp [strL]
theorem strL_app (a b : List UInt8) : strL (a ++ b) = strL a ++ strL b := by apply ByteArray.ext; simp [strL]
/-- A text cut at each sign. -/
def splitC (c : UInt8) : List UInt8 → List (List UInt8)
  | [] => [[]]
  | x :: r => if x = c then [] :: splitC c r else (x :: (splitC c r).headD []) :: (splitC c r).tail
theorem splitC_ne (c : UInt8) (l : List UInt8) : splitC c l ≠ [] := by
  cases l with
  | nil => simp [splitC]
  | cons x r => unfold splitC; split <;> simp
theorem splitK_one (c : UInt8) : ∀ s : List UInt8, Lib.splitK [c] 0 (s.count c) s = splitC c s
  | [] => rfl
  | x :: r => by
    have ih := splitK_one c r
    by_cases h : x = c
    · subst h
      have hc : (x :: r).count x = r.count x + 1 := by simp
      have hi : Lib.index (x :: r) [x] = 0 := by rw [Lib.index]; simp [List.isPrefixOf]
      rw [hc]
      unfold Lib.splitK splitC
      rw [hi, if_neg (by decide), if_pos rfl, ← ih]
      simp
    · have hc : (x :: r).count c = r.count c := List.count_cons_of_ne (by simpa using h)
      have hix : Lib.index (x :: r) [c] = if Lib.index r [c] == -1 then -1 else Lib.index r [c] + 1 := by rw [Lib.index]; simp [List.isPrefixOf, Ne.symm h]
      rw [hc]
      unfold splitC
      rw [if_neg h, ← ih]
      cases hk : r.count c with
      | zero => simp [Lib.splitK]
      | succ k =>
        unfold Lib.splitK
        by_cases hm : Lib.index r [c] = -1
        · rw [hix, hm]; simp
        · have hge := Lib.index_ge r [c]
          obtain ⟨j, hj⟩ : ∃ j : Nat, Lib.index r [c] = j := ⟨(Lib.index r [c]).toNat, by omega⟩
          have e1 : ((j : Int) == -1) = false := by rw [beq_eq_false_iff_ne]; omega
          have e2 : (((j : Int) + 1) == -1) = false := by rw [beq_eq_false_iff_ne]; omega
          rw [hix, hj]
          simp only [e1, e2, if_false, Bool.false_eq_true]
          have e3 : ((j : Int) + 1).toNat = j + 1 := by omega
          have e4 : ((j : Int)).toNat = j := by omega
          rw [e3, e4]
          simp [List.take_succ_cons]
theorem splitC_count (c : UInt8) : ∀ s : List UInt8, (splitC c s).length = s.count c + 1
  | [] => rfl
  | x :: r => by
    have ih := splitC_count c r
    unfold splitC
    by_cases h : x = c
    · subst h; rw [if_pos rfl]; simp [ih]
    · rw [if_neg h, List.count_cons_of_ne (by simpa using h)]
      simp [ih]
/-- The lines of a text, a byte after the other. -/
def refL (line : List UInt8) (opn : Bool) : List UInt8 → List (List UInt8)
  | [] => if opn then [line] else []
  | x :: r => if x = 10 then line :: refL [] false r else refL (line ++ [x]) true r
def linesL (s : List UInt8) : List (List UInt8) := refL [] false s
theorem refL_len (s : List UInt8) : ∀ (line : List UInt8) (o : Bool), (refL line o s).length ≤ s.length + 1 := by
  induction s with
  | nil => intro line o; cases o <;> simp [refL]
  | cons x r ih =>
    intro line o
    unfold refL
    split
    · have := ih [] false; simp; omega
    · have := ih (line ++ [x]) true; simp; omega
theorem suffix_two (x y : UInt8) (r p : List UInt8) (c : UInt8) (hp : p = [c]) : p.isSuffixOf (x :: y :: r) = p.isSuffixOf (y :: r) := by
  subst hp
  rw [Bool.eq_iff_iff, List.isSuffixOf_iff_suffix, List.isSuffixOf_iff_suffix, List.suffix_cons_iff]
  constructor
  · rintro (h | h)
    · exact absurd h (by simp)
    · exact h
  · exact .inr
theorem trim_two (x y : UInt8) (r : List UInt8) : Lib.trimSuffix (x :: y :: r) [10] = x :: Lib.trimSuffix (y :: r) [10] := by
  unfold Lib.trimSuffix Lib.hasSuffix
  rw [suffix_two x y r [10] 10 rfl]
  split
  · simp
  · rfl
theorem lines_split (s : List UInt8) (h : s ≠ []) : ∀ (line : List UInt8) (o : Bool), refL line o s = (line ++ (splitC 10 (Lib.trimSuffix s [10])).headD []) :: (splitC 10 (Lib.trimSuffix s [10])).tail := by
  induction s with
  | nil => exact absurd rfl h
  | cons x r ih =>
    intro line o
    cases r with
    | nil =>
      by_cases hx : x = 10
      · subst hx
        have : Lib.trimSuffix [10] [10] = [] := by decide
        rw [this]
        simp [refL, splitC]
      · have : Lib.trimSuffix [x] [10] = [x] := by
          unfold Lib.trimSuffix Lib.hasSuffix
          rw [if_neg]
          rw [List.isSuffixOf_iff_suffix]
          intro hs
          have := List.IsSuffix.eq_of_length hs rfl
          injection this with e; exact hx e.symm
        rw [this]
        simp [refL, splitC, hx]
    | cons y r =>
      rw [trim_two]
      have ih := ih (by simp)
      unfold refL
      by_cases hx : x = 10
      · subst hx
        rw [if_pos rfl, ih]
        conv => rhs; unfold splitC
        rw [if_pos rfl]
        have hne := splitC_ne 10 (Lib.trimSuffix (y :: r) [10])
        generalize splitC 10 (Lib.trimSuffix (y :: r) [10]) = T at hne ⊢
        cases T with
        | nil => exact absurd rfl hne
        | cons a t => simp
      · rw [if_neg hx, ih]
        conv => rhs; unfold splitC
        rw [if_neg hx]
        simp
theorem lines_eq (s : List UInt8) (h : s ≠ []) : linesL s = splitC 10 (Lib.trimSuffix s [10]) := by
  unfold linesL
  rw [lines_split s h]
  have hne := splitC_ne 10 (Lib.trimSuffix s [10])
  generalize splitC 10 (Lib.trimSuffix s [10]) = T at hne ⊢
  cases T with
  | nil => exact absurd rfl hne
  | cons a t => simp
/-- Lines as a text. -/
def textL (l : List (List UInt8)) : List UInt8 := l.flatMap (fun x => x ++ [10])
theorem refL_run (x : List UInt8) (hx : ∀ c ∈ x, c ≠ 10) (r : List UInt8) : ∀ (acc : List UInt8) (o : Bool), refL acc o (x ++ 10 :: r) = (acc ++ x) :: refL [] false r := by
  induction x with
  | nil => intro acc o; simp [refL]
  | cons a t ih =>
    intro acc o
    have ha : a ≠ 10 := hx a (by simp)
    rw [List.cons_append]
    conv => lhs; unfold refL
    rw [if_neg ha, ih (fun c hc => hx c (by simp [hc]))]
    simp
theorem lines_text (l : List (List UInt8)) (h : ∀ x ∈ l, ∀ c ∈ x, c ≠ 10) : linesL (textL l) = l := by
  unfold linesL
  induction l with
  | nil => rfl
  | cons x r ih =>
    have e : textL (x :: r) = x ++ 10 :: textL r := by simp [textL]
    rw [e, refL_run x (h x (by simp)), ih (fun y hy => h y (by simp [hy]))]
    simp
/-- A blank. -/
def isB (c : UInt8) : Bool := c == 32 || c == 9
/-- The words of a line, a byte after the other. -/
def refW (w : List UInt8) : List UInt8 → List (List UInt8)
  | [] => if w = [] then [] else [w]
  | x :: r => if x = 35 then (if w = [] then [] else [w]) else if isB x = true then (if w = [] then refW [] r else w :: refW [] r) else refW (w ++ [x]) r
def wordsL (s : List UInt8) : List (List UInt8) := refW [] s
theorem refW_cut (s : List UInt8) : ∀ w, refW w (s.takeWhile (fun c => !(c == 35))) = refW w s := by
  induction s with
  | nil => intro w; rfl
  | cons x r ih =>
    intro w
    by_cases h : x = 35
    · subst h; simp [refW]
    · have h2 : (x == 35) = false := by simpa using h
      rw [List.takeWhile_cons, h2]
      simp only [Bool.not_false, if_true]
      unfold refW
      rw [if_neg h, if_neg h]
      split
      · split
        · exact ih []
        · rw [ih []]
      · exact ih _
theorem refW_blank (s : List UInt8) (hs : ∀ c ∈ s, c ≠ 35) : refW [] (s.dropWhile isB) = refW [] s := by
  induction s with
  | nil => rfl
  | cons x r ih =>
    have hx : x ≠ 35 := hs x (by simp)
    cases hb : isB x with
    | false => rw [List.dropWhile_cons, hb]; simp
    | true =>
      rw [List.dropWhile_cons, hb]
      simp only [if_true]
      rw [ih (fun c hc => hs c (by simp [hc]))]
      conv => rhs; unfold refW
      rw [if_neg hx, hb]
      simp
theorem refW_run (s : List UInt8) (hs : ∀ c ∈ s, c ≠ 35) : ∀ w, w ++ s.takeWhile (fun c => !isB c) ≠ [] → refW w s = (w ++ s.takeWhile (fun c => !isB c)) :: refW [] (s.dropWhile (fun c => !isB c)) := by
  induction s with
  | nil => intro w h; simp at h; simp [refW, h]
  | cons x r ih =>
    intro w h
    have hx : x ≠ 35 := hs x (by simp)
    cases hb : isB x with
    | true =>
      rw [List.takeWhile_cons, hb] at h
      simp only [Bool.not_true, Bool.false_eq_true, if_false, List.append_nil] at h
      rw [List.takeWhile_cons, List.dropWhile_cons, hb]
      simp only [Bool.not_true, Bool.false_eq_true, if_false, List.append_nil]
      unfold refW
      rw [if_neg hx, if_neg hx, hb, if_pos rfl, if_neg h]
      simp
    | false =>
      rw [List.takeWhile_cons, List.dropWhile_cons, hb]
      simp only [Bool.not_false, if_true]
      conv => lhs; unfold refW
      rw [if_neg hx, hb]
      simp only [Bool.false_eq_true, if_false]
      rw [ih (fun c hc => hs c (by simp [hc])) (w ++ [x]) (by simp)]
      simp
theorem refW_word (y : List UInt8) (h : ∀ c ∈ y, c ≠ 35 ∧ isB c = false) (t : List UInt8) : ∀ acc, refW acc (y ++ t) = refW (acc ++ y) t := by
  induction y with
  | nil => intro acc; simp
  | cons a r ih =>
    intro acc
    obtain ⟨h1, h2⟩ := h a (by simp)
    rw [List.cons_append]
    conv => lhs; unfold refW
    rw [if_neg h1, h2]
    simp only [Bool.false_eq_true, if_false]
    rw [ih (fun c hc => h c (by simp [hc]))]
    simp
theorem refW_tail (r : List (List UInt8)) (h : ∀ y ∈ r, y ≠ [] ∧ ∀ c ∈ y, c ≠ 35 ∧ isB c = false) : ∀ w, w ≠ [] → refW w (Lib.joinTail [32] r ++ [32, 35, 32, 120]) = w :: r := by
  induction r with
  | nil =>
    intro w hw
    show refW w [32, 35, 32, 120] = [w]
    simp [refW, isB, hw]
  | cons y r ih =>
    intro w hw
    obtain ⟨h1, h2⟩ := h y (by simp)
    have e : Lib.joinTail [32] (y :: r) = 32 :: (y ++ Lib.joinTail [32] r) := by simp [Lib.joinTail]
    rw [e, List.cons_append, List.append_assoc]
    unfold refW
    rw [if_neg (by decide), if_pos (by decide), if_neg hw, refW_word y h2, List.nil_append, ih (fun z hz => h z (by simp [hz])) y h1]
theorem words_join (l : List (List UInt8)) (h : ∀ y ∈ l, y ≠ [] ∧ ∀ c ∈ y, c ≠ 35 ∧ isB c = false) : wordsL (9 :: (Lib.join l [32] ++ [32, 35, 32, 120])) = l := by
  unfold wordsL
  unfold refW
  rw [if_neg (by decide), if_pos (by decide), if_pos rfl]
  cases l with
  | nil => rw [Lib.join_nil]; simp [refW, isB]
  | cons x r =>
    obtain ⟨h1, h2⟩ := h x (by simp)
    rw [Lib.join_cons, List.append_assoc, refW_word x h2, List.nil_append]
    exact refW_tail r (fun y hy => h y (by simp [hy])) x h1
theorem refW_len (s : List UInt8) : ∀ w, (refW w s).length ≤ s.length + 1 := by
  induction s with
  | nil => intro w; unfold refW; split <;> simp
  | cons x r ih =>
    intro w
    have h1 := ih []
    have h2 := ih (w ++ [x])
    unfold refW
    repeat (first | split | (simp only [List.length_cons, List.length_nil]; omega))
end Go.Proofs.YtanihdpgblkeaaaGreatDoor

/-! Words -/
namespace Go.Proofs.YtanihdpgblkeaaaGreatDoor
open Go.RowKit
set_option linter.unusedVariables false
set_option linter.unusedSimpArgs false

/-- How far the first byte that is so stands. -/
def untilN (p : UInt8 → Bool) (l : List UInt8) : Nat := (l.takeWhile (fun c => !p c)).length
theorem untilN_le (p : UInt8 → Bool) (l : List UInt8) : untilN p l ≤ l.length := (List.takeWhile_prefix _).length_le
theorem drop_at {l : List UInt8} {a : Nat} {c : UInt8} (h : l[a]? = some c) : l.drop a = c :: l.drop (a + 1) := by
  obtain ⟨hl, e⟩ := List.getElem?_eq_some_iff.1 h
  rw [List.drop_eq_getElem_cons hl, e]
theorem untilN_yes {p : UInt8 → Bool} {l : List UInt8} {a : Nat} {c : UInt8} (h : l[a]? = some c) (hp : p c = true) : untilN p (l.drop a) = 0 := by
  rw [drop_at h]; unfold untilN; simp [hp]
theorem untilN_no {p : UInt8 → Bool} {l : List UInt8} {a : Nat} {c : UInt8} (h : l[a]? = some c) (hp : p c = false) : untilN p (l.drop a) = untilN p (l.drop (a + 1)) + 1 := by
  rw [drop_at h]; unfold untilN; simp [hp]
theorem untilN_end {p : UInt8 → Bool} {l : List UInt8} {a : Nat} (h : l.length ≤ a) : untilN p (l.drop a) = 0 := by
  rw [List.drop_eq_nil_of_le h]; rfl
theorem untilN_at {p : UInt8 → Bool} {l : List UInt8} {a : Nat} {c : UInt8} (h : l[a + untilN p (l.drop a)]? = some c) : p c = true := by
  rw [← List.getElem?_drop] at h
  generalize l.drop a = r at h
  induction r with
  | nil => simp at h
  | cons x t ih =>
    cases hx : p x with
    | true => unfold untilN at h; simp [hx] at h; rw [← h]; exact hx
    | false =>
      apply ih
      have e : untilN p (x :: t) = untilN p t + 1 := by unfold untilN; simp [hx]
      rw [e] at h
      simpa using h
theorem dropWhile_drop (q : UInt8 → Bool) (l : List UInt8) : l.dropWhile q = l.drop (l.takeWhile q).length := by
  induction l with
  | nil => rfl
  | cons x t ih =>
    cases hx : q x with
    | true => simp [hx, ih]
    | false => simp [hx]
theorem takeWhile_take (q : UInt8 → Bool) (l : List UInt8) : l.takeWhile q = l.take (l.takeWhile q).length := by
  induction l with
  | nil => rfl
  | cons x t ih =>
    cases hx : q x with
    | true => simp only [List.takeWhile_cons, hx, if_true, List.length_cons, List.take_succ_cons]; rw [← ih]
    | false => simp [hx]
theorem words_skip (L : List UInt8) (hL : ∀ c ∈ L, c ≠ 35) (k : Nat) : wordsL (L.drop (k + untilN (fun c => !isB c) (L.drop k))) = wordsL (L.drop k) := by
  have h := refW_blank (L.drop k) (fun c hc => hL c (List.mem_of_mem_drop hc))
  unfold wordsL
  rw [← h, dropWhile_drop, ← List.drop_drop]
  congr 2
  unfold untilN
  congr 1
  congr 1
  funext c
  simp
theorem words_take (L : List UInt8) (hL : ∀ c ∈ L, c ≠ 35) (k : Nat) (c : UInt8) (hc : L[k]? = some c) (hb : isB c = false) : wordsL (L.drop k) = (L.drop k).take (untilN isB (L.drop k)) :: wordsL (L.drop (k + untilN isB (L.drop k))) := by
  have hne : ([] : List UInt8) ++ (L.drop k).takeWhile (fun c => !isB c) ≠ [] := by rw [drop_at hc]; simp [hb]
  have h := refW_run (L.drop k) (fun c hc => hL c (List.mem_of_mem_drop hc)) [] hne
  unfold wordsL
  rw [h, dropWhile_drop, List.nil_append, ← List.drop_drop]
  congr 1
  exact takeWhile_take _ _
theorem mem_tw (q : UInt8 → Bool) (l : List UInt8) : ∀ c ∈ l.takeWhile q, q c = true := by
  induction l with
  | nil => intro c h; simp at h
  | cons x t ih =>
    intro c h
    cases hx : q x with
    | true =>
      rw [List.takeWhile_cons, hx] at h
      simp only [if_true, List.mem_cons] at h
      rcases h with rfl | h
      · exact hx
      · exact ih c h
    | false => rw [List.takeWhile_cons, hx] at h; simp at h
theorem ownS_mkL {B : Nat} {w : World} {v : Value} {l : List (List UInt8)} {b : ByteArray} (h : w.ownsRow B 9 1 v (l.length + 1) (l.map (Value.string ∘ strL) ++ [Value.string b])) : OwnS B w v (l.map strL ++ [b]) := by
  unfold OwnS
  rw [List.length_append, List.map_append, List.length_map, List.map_map]
  exact h
theorem words_hash (c : UInt8) (w : World) : Calls Tryz.prog 76 #[.int .u8 c.toNat] w fun e w' => e = .returned (.bool (c == 35)) ∧ w = w' := by
  have hd : ((c.toNat : Int) == 35) = (c == 35) := by
    rw [Bool.eq_iff_iff, beq_iff_eq, beq_iff_eq, ← UInt8.toNat_inj]
    show _ ↔ c.toNat = 35
    omega
  go_enter Tryz.func76, Tryz.ntmps76
  go_wp2_with fail
  go_ret
  exact ⟨by rw [← hd]; rfl, rfl⟩
theorem words_blank (c : UInt8) (w : World) : Calls Tryz.prog 78 #[.int .u8 c.toNat] w fun e w' => e = .returned (.bool (isB c)) ∧ w = w' := by
  go_enter Tryz.func78, Tryz.ntmps78
  by_cases h : c = 32
  · subst h
    go_wp2_with fail
    go_ret
    exact ⟨rfl, rfl⟩
  · have e2 : isB c = (c == 9) := by
      have e1 : (c == 32) = false := beq_eq_false_iff_ne.2 h
      unfold isB; rw [e1]; rfl
    rw [e2]
    by_cases h9 : c = 9
    · subst h9
      go_wp2_with fail
      go_ret
      exact ⟨rfl, rfl⟩
    · have h1 : ¬ (c.toNat : Int) = 32 := by
        intro e; apply h; rw [← UInt8.toNat_inj]; show c.toNat = 32; omega
      have h2 : ¬ (c.toNat : Int) = 9 := by
        intro e; apply h9; rw [← UInt8.toNat_inj]; show c.toNat = 9; omega
      have e1 : (c == 9) = false := beq_eq_false_iff_ne.2 h9
      have g1 : ((c.toNat : Int) == 32) = false := beq_eq_false_iff_ne.2 h1
      have g2 : ((c.toNat : Int) == 9) = false := beq_eq_false_iff_ne.2 h2
      rw [e1]
      go_wp2_with fail
      go_ret
      exact ⟨rfl, rfl⟩
theorem words_solid (c : UInt8) (w : World) : Calls Tryz.prog 77 #[.int .u8 c.toNat] w fun e w' => e = .returned (.bool (!isB c)) ∧ w = w' := by
  go_enter Tryz.func77, Tryz.ntmps77
  go_wp2_with (go_at_call 78; refine (words_blank c _).mono ?_; rintro e w' ⟨rfl, rfl⟩)
  go_ret
  exact ⟨rfl, rfl⟩
set_option maxRecDepth 100000 in
theorem until_hash (s : ByteArray) (a : Nat) (hs : s.size ≤ maxLen) (ha : a ≤ s.size) (w : World) :
    Calls Tryz.prog 75 #[.string s, .int .i64 a, .func (.func 76) #[] #[]] w fun e w' => e = .returned (.int .i64 ((a + untilN (fun c => c == 35) (s.data.toList.drop a) : Nat) : Int)) ∧ w = w' := by
  have hs63 : s.size ≤ 9223372036854775807 := by unfold maxLen at hs; omega
  have hlen : s.data.toList.length = s.size := (Lib.size_eq s).symm
  obtain ⟨N, hN⟩ : ∃ N, a + untilN (fun c => c == 35) (s.data.toList.drop a) = N := ⟨_, rfl⟩
  rw [hN]
  have HN := Lib.hid hN
  clear hN
  go_enter Tryz.func75, Tryz.ntmps75
  go_wp2_with fail
  go_loopg [1] (s.size - a) (fun g i wr => ∃ q : Nat, q ≤ s.size ∧ g = s.size - q ∧ i = .int .i64 q ∧ wr = w ∧ Hid (q + untilN (fun c => c == 35) (s.data.toList.drop q) = N))
  case atStart => exact ⟨a, ha, rfl, rfl, rfl, HN⟩
  case round =>
    obtain ⟨q, hq, hg, rfl, rfl, HQ⟩ := hrel
    have hg := hg.symm
    subst hg
    by_cases hlt : q < s.size
    · obtain ⟨c, hc⟩ : ∃ c, s[q]'hlt = c := ⟨_, rfl⟩
      have hget : s.data.toList[q]? = some c := by
        rw [List.getElem?_eq_getElem (by rw [hlen]; exact hlt), ← hc]
        rfl
      have hby : (((s[q]'hlt).toNat : Nat) : Int) = (c.toNat : Int) := by rw [hc]
      have hlI : (q : Int) < (s.size : Int) := by omega
      have hq0 : (0 : Int) ≤ (q : Int) := by omega
      have CT := Lib.hid (words_hash c)
      cases hpc : (fun c => c == 35) c with
      | true =>
        have HF : Hid (N = q) := Lib.hid (by rw [← HQ.out, untilN_yes hget hpc]; rfl)
        have hpc := Lib.hid hpc
        clear hget hc HQ HN
        go_wp2_with fail
        refine (CT.out _).mono ?_
        rintro e w1 ⟨rfl, rfl⟩
        rw [hpc.out]
        go_wp2_with fail
        go_ret
        exact ⟨by rw [HF.out]; rfl, rfl⟩
      | false =>
        have HF : Hid ((q + 1) + untilN (fun c => c == 35) (s.data.toList.drop (q + 1)) = N) := Lib.hid (by rw [← HQ.out, untilN_no hget hpc]; omega)
        have hpc := Lib.hid hpc
        clear hget hc HQ HN
        go_wp2_with fail
        refine (CT.out _).mono ?_
        rintro e w1 ⟨rfl, rfl⟩
        rw [hpc.out]
        go_wp2_with fail
        go_roundg (s.size - (q + 1))
        case measure => omega
        case rel => exact ⟨q + 1, by omega, rfl, by go_num, rfl, HF⟩
    · obtain rfl : q = s.size := by omega
      have HF : Hid (N = s.size) := Lib.hid (by rw [← HQ.out, untilN_end (by omega)]; rfl)
      clear HQ HN
      go_wp2_with fail
      go_ret
      exact ⟨by rw [HF.out]; rfl, rfl⟩
set_option maxRecDepth 100000 in
theorem until_solid (s : ByteArray) (a : Nat) (hs : s.size ≤ maxLen) (ha : a ≤ s.size) (w : World) :
    Calls Tryz.prog 75 #[.string s, .int .i64 a, .func (.func 77) #[] #[]] w fun e w' => e = .returned (.int .i64 ((a + untilN (fun c => !isB c) (s.data.toList.drop a) : Nat) : Int)) ∧ w = w' := by
  have hs63 : s.size ≤ 9223372036854775807 := by unfold maxLen at hs; omega
  have hlen : s.data.toList.length = s.size := (Lib.size_eq s).symm
  obtain ⟨N, hN⟩ : ∃ N, a + untilN (fun c => !isB c) (s.data.toList.drop a) = N := ⟨_, rfl⟩
  rw [hN]
  have HN := Lib.hid hN
  clear hN
  go_enter Tryz.func75, Tryz.ntmps75
  go_wp2_with fail
  go_loopg [1] (s.size - a) (fun g i wr => ∃ q : Nat, q ≤ s.size ∧ g = s.size - q ∧ i = .int .i64 q ∧ wr = w ∧ Hid (q + untilN (fun c => !isB c) (s.data.toList.drop q) = N))
  case atStart => exact ⟨a, ha, rfl, rfl, rfl, HN⟩
  case round =>
    obtain ⟨q, hq, hg, rfl, rfl, HQ⟩ := hrel
    have hg := hg.symm
    subst hg
    by_cases hlt : q < s.size
    · obtain ⟨c, hc⟩ : ∃ c, s[q]'hlt = c := ⟨_, rfl⟩
      have hget : s.data.toList[q]? = some c := by
        rw [List.getElem?_eq_getElem (by rw [hlen]; exact hlt), ← hc]
        rfl
      have hby : (((s[q]'hlt).toNat : Nat) : Int) = (c.toNat : Int) := by rw [hc]
      have hlI : (q : Int) < (s.size : Int) := by omega
      have hq0 : (0 : Int) ≤ (q : Int) := by omega
      have CT := Lib.hid (words_solid c)
      cases hpc : (fun c => !isB c) c with
      | true =>
        have HF : Hid (N = q) := Lib.hid (by rw [← HQ.out, untilN_yes hget hpc]; rfl)
        have hpc := Lib.hid hpc
        clear hget hc HQ HN
        go_wp2_with fail
        refine (CT.out _).mono ?_
        rintro e w1 ⟨rfl, rfl⟩
        rw [hpc.out]
        go_wp2_with fail
        go_ret
        exact ⟨by rw [HF.out]; rfl, rfl⟩
      | false =>
        have HF : Hid ((q + 1) + untilN (fun c => !isB c) (s.data.toList.drop (q + 1)) = N) := Lib.hid (by rw [← HQ.out, untilN_no hget hpc]; omega)
        have hpc := Lib.hid hpc
        clear hget hc HQ HN
        go_wp2_with fail
        refine (CT.out _).mono ?_
        rintro e w1 ⟨rfl, rfl⟩
        rw [hpc.out]
        go_wp2_with fail
        go_roundg (s.size - (q + 1))
        case measure => omega
        case rel => exact ⟨q + 1, by omega, rfl, by go_num, rfl, HF⟩
    · obtain rfl : q = s.size := by omega
      have HF : Hid (N = s.size) := Lib.hid (by rw [← HQ.out, untilN_end (by omega)]; rfl)
      clear HQ HN
      go_wp2_with fail
      go_ret
      exact ⟨by rw [HF.out]; rfl, rfl⟩
set_option maxRecDepth 100000 in
theorem until_blank (s : ByteArray) (a : Nat) (hs : s.size ≤ maxLen) (ha : a ≤ s.size) (w : World) :
    Calls Tryz.prog 75 #[.string s, .int .i64 a, .func (.func 78) #[] #[]] w fun e w' => e = .returned (.int .i64 ((a + untilN isB (s.data.toList.drop a) : Nat) : Int)) ∧ w = w' := by
  have hs63 : s.size ≤ 9223372036854775807 := by unfold maxLen at hs; omega
  have hlen : s.data.toList.length = s.size := (Lib.size_eq s).symm
  obtain ⟨N, hN⟩ : ∃ N, a + untilN isB (s.data.toList.drop a) = N := ⟨_, rfl⟩
  rw [hN]
  have HN := Lib.hid hN
  clear hN
  go_enter Tryz.func75, Tryz.ntmps75
  go_wp2_with fail
  go_loopg [1] (s.size - a) (fun g i wr => ∃ q : Nat, q ≤ s.size ∧ g = s.size - q ∧ i = .int .i64 q ∧ wr = w ∧ Hid (q + untilN isB (s.data.toList.drop q) = N))
  case atStart => exact ⟨a, ha, rfl, rfl, rfl, HN⟩
  case round =>
    obtain ⟨q, hq, hg, rfl, rfl, HQ⟩ := hrel
    have hg := hg.symm
    subst hg
    by_cases hlt : q < s.size
    · obtain ⟨c, hc⟩ : ∃ c, s[q]'hlt = c := ⟨_, rfl⟩
      have hget : s.data.toList[q]? = some c := by
        rw [List.getElem?_eq_getElem (by rw [hlen]; exact hlt), ← hc]
        rfl
      have hby : (((s[q]'hlt).toNat : Nat) : Int) = (c.toNat : Int) := by rw [hc]
      have hlI : (q : Int) < (s.size : Int) := by omega
      have hq0 : (0 : Int) ≤ (q : Int) := by omega
      have CT := Lib.hid (words_blank c)
      cases hpc : isB c with
      | true =>
        have HF : Hid (N = q) := Lib.hid (by rw [← HQ.out, untilN_yes hget hpc]; rfl)
        have hpc := Lib.hid hpc
        clear hget hc HQ HN
        go_wp2_with fail
        refine (CT.out _).mono ?_
        rintro e w1 ⟨rfl, rfl⟩
        rw [hpc.out]
        go_wp2_with fail
        go_ret
        exact ⟨by rw [HF.out]; rfl, rfl⟩
      | false =>
        have HF : Hid ((q + 1) + untilN isB (s.data.toList.drop (q + 1)) = N) := Lib.hid (by rw [← HQ.out, untilN_no hget hpc]; omega)
        have hpc := Lib.hid hpc
        clear hget hc HQ HN
        go_wp2_with fail
        refine (CT.out _).mono ?_
        rintro e w1 ⟨rfl, rfl⟩
        rw [hpc.out]
        go_wp2_with fail
        go_roundg (s.size - (q + 1))
        case measure => omega
        case rel => exact ⟨q + 1, by omega, rfl, by go_num, rfl, HF⟩
    · obtain rfl : q = s.size := by omega
      have HF : Hid (N = s.size) := Lib.hid (by rw [← HQ.out, untilN_end (by omega)]; rfl)
      clear HQ HN
      go_wp2_with fail
      go_ret
      exact ⟨by rw [HF.out]; rfl, rfl⟩
set_option maxRecDepth 100000 in
set_option maxHeartbeats 1600000 in
theorem words_words (s : ByteArray) (hs : s.size ≤ 100000) (w : World) :
    Calls Tryz.prog 41 #[.string s] w fun e w' => ∃ v, e = .returned v ∧ OwnS w.heap.size w' v ((wordsL s.data.toList).map strL) ∧ Below w.heap.size w w' := by
  obtain ⟨i, hi, hz, hsize, hby⟩ : ∃ i, Tryz.prog.info? 9 = some i ∧ i.zero = some (.string ⟨#[]⟩) ∧ i.size = 1 ∧ i.bytes = 16 := ⟨_, rfl, rfl, rfl, rfl⟩
  have HI := Lib.hid hi
  clear hi
  have hs63 : s.size ≤ 9223372036854775807 := by omega
  have U0 := until_hash s 0 (by unfold maxLen; omega) (Nat.zero_le _)
  rw [List.drop_zero, Nat.zero_add] at U0
  have hn := untilN_le (fun c => c == 35) s.data.toList
  have hcut : (s.extract 0 (untilN (fun c => c == 35) s.data.toList)).data.toList = s.data.toList.takeWhile (fun c => !(c == 35)) := by
    rw [ByteArray.data_extract, Array.toList_extract, List.extract_eq_take_drop, List.drop_zero, Nat.sub_zero]
    exact (takeWhile_take _ _).symm
  have hw := refW_cut s.data.toList []
  rw [← hcut] at hw
  have hL : ∀ c ∈ (s.extract 0 (untilN (fun c => c == 35) s.data.toList)).data.toList, c ≠ 35 := by
    rw [hcut]
    intro c hc
    have := mem_tw _ _ _ hc
    simpa using this
  have hz2 : (s.extract 0 (untilN (fun c => c == 35) s.data.toList)).size ≤ 100000 := by rw [ByteArray.size_extract]; omega
  have hlen : untilN (fun c => c == 35) s.data.toList ≤ s.size := by rw [show s.size = s.data.toList.length from Lib.size_eq s]; exact hn
  generalize untilN (fun c => c == 35) s.data.toList = n at U0 hcut hw hL hz2 hlen
  obtain ⟨t, ht⟩ : ∃ t, s.extract 0 n = t := ⟨_, rfl⟩
  rw [ht] at hw hL hz2
  have ht2 := ht
  have hw2 : wordsL s.data.toList = wordsL t.data.toList := hw.symm
  rw [hw2]
  have hlI : (n : Int) ≤ (s.size : Int) := by omega
  have hl0 : (0 : Int) ≤ (n : Int) := by omega
  have HU0 := Lib.hid U0
  have HLH := Lib.hid hL
  have HT := Lib.hid ht2
  have hzl : t.data.toList.length = t.size := (Lib.size_eq t).symm
  have hz63 : t.size ≤ 9223372036854775807 := by omega
  clear hn hcut hw hL hw2 U0 ht2 ht hlen
  go_enter Tryz.func41, Tryz.ntmps41
  go_wp2_with fail
  go_step3
  go_upto_region 2 with (go_at_call 75; refine (HU0.out _).mono ?_; rintro e w1 ⟨rfl, rfl⟩)
  rw [HT.out]
  clear HT HU0 hlI hl0
  go_wp2_with fail
  go_step3
  go_wp2_with fail
  go_loopg [3, 4] (t.size + 1) (fun g v at_ wr => ∃ (k : Nat) (l : List (List UInt8)), k ≤ t.size ∧ g = t.size + 1 - k ∧ at_ = .int .i64 k ∧ l.length ≤ k ∧ OwnS w.heap.size wr v (l.map strL) ∧ Below w.heap.size w wr ∧ Hid (wordsL t.data.toList = l ++ wordsL (t.data.toList.drop k)))
  case atStart => exact ⟨0, [], by omega, by omega, rfl, by simp, OwnS.nil _ _, Below.refl _ _, Lib.hid (by simp)⟩
  case round =>
    obtain ⟨k, l, hk, hg, rfl, hl, hown, hbl, HA⟩ := hrel
    have hg := hg.symm
    subst hg
    have HO := Lib.hid hown
    have HB := Lib.hid hbl
    clear hown hbl
    have U1 := until_solid t k (by unfold maxLen; omega) hk
    have hp1 := untilN_le (fun c => !isB c) (t.data.toList.drop k)
    have hsk := words_skip t.data.toList HLH.out k
    rw [List.length_drop, hzl] at hp1
    obtain ⟨p1, hp⟩ : ∃ p1, k + untilN (fun c => !isB c) (t.data.toList.drop k) = p1 := ⟨_, rfl⟩
    have hat := fun c => untilN_at (p := fun c => !isB c) (l := t.data.toList) (a := k) (c := c)
    rw [hp] at hsk hat U1
    have hpk : k ≤ p1 ∧ p1 ≤ t.size := by omega
    have HA1 : Hid (wordsL t.data.toList = l ++ wordsL (t.data.toList.drop p1)) := Lib.hid (by rw [hsk]; exact HA.out)
    have HU1 := Lib.hid U1
    have HAT := Lib.hid hat
    clear hp hp1 hsk hat U1 HA
    by_cases hend : p1 = t.size
    · have HA2 : Hid (wordsL t.data.toList = l) := Lib.hid (by rw [HA1.out, List.drop_eq_nil_of_le (by omega)]; simp [wordsL, refW])
      have he : ((p1 : Int) == (t.size : Int)) = true := by rw [hend]; simp
      clear HA1 HAT hend
      go_wp2_with fail
      refine (HU1.out _).mono ?_
      rintro e w2 ⟨rfl, rfl⟩
      go_wp2_with fail
      rw [Exit.noGoto_ret]
      go_ret
      rw [HA2.out]
      exact ⟨_, rfl, HO.out, HB.out⟩
    · have he : ((p1 : Int) == (t.size : Int)) = false := by rw [beq_eq_false_iff_ne]; omega
      have hlt : p1 < t.data.toList.length := by omega
      have hcb : isB (t.data.toList[p1]) = false := by
        have := HAT.out _ (List.getElem?_eq_getElem hlt)
        simpa using this
      have U2 := until_blank t p1 (by unfold maxLen; omega) hpk.2
      have htk := words_take t.data.toList HLH.out p1 _ (List.getElem?_eq_getElem hlt) hcb
      have hp2 := untilN_le isB (t.data.toList.drop p1)
      rw [List.length_drop, hzl] at hp2
      have hpos : 0 < untilN isB (t.data.toList.drop p1) := by rw [untilN_no (List.getElem?_eq_getElem hlt) hcb]; omega
      obtain ⟨m, hm⟩ : ∃ m, untilN isB (t.data.toList.drop p1) = m := ⟨_, rfl⟩
      rw [hm] at htk hp2 hpos U2
      have hpc : (t.extract p1 (p1 + m)) = strL ((t.data.toList.drop p1).take m) := by
        apply ByteArray.ext
        apply Array.ext'
        show (t.extract p1 (p1 + m)).data.toList = _
        rw [ByteArray.data_extract, Array.toList_extract, List.extract_eq_take_drop, show p1 + m - p1 = m by omega]
        rfl
      obtain ⟨p2, hq⟩ : ∃ p2, p1 + m = p2 := ⟨_, rfl⟩
      rw [hq] at htk U2 hpc
      have HA2 : Hid (wordsL t.data.toList = l ++ [(t.data.toList.drop p1).take m] ++ wordsL (t.data.toList.drop p2)) := Lib.hid (by rw [HA1.out, htk]; simp)
      obtain ⟨P, hP⟩ : ∃ P, (t.data.toList.drop p1).take m = P := ⟨_, rfl⟩
      rw [hP] at HA2 hpc
      have HPC := Lib.hid hpc
      have hp2' : p1 < p2 ∧ p2 ≤ t.size := by omega
      have q1 : (p1 : Int) ≤ (p2 : Int) := by omega
      have q2 : (p2 : Int) ≤ (t.size : Int) := by omega
      have q0 : (0 : Int) ≤ (p1 : Int) := by omega
      have HU2 := Lib.hid U2
      clear HA1 HAT hend hlt hcb htk hp2 hpos hm hq hpc hP U2
      go_wp2_with fail
      refine (HU1.out _).mono ?_
      rintro e w2 ⟨rfl, rfl⟩
      go_wp2_with fail
      refine (HU2.out _).mono ?_
      rintro e w3 ⟨rfl, rfl⟩
      rename_i wr
      go_wp2_with (at_builtin; refine wpList_append_own _ rfl _ _ 67 rfl w.heap.size 9 i (.string ⟨#[]⟩) 1 16 Tryz.underlying67 HI.out hz hsize hby rfl (by decide) _ (l.map strL).length ((l.map strL).map Value.string) rfl (HO.out.below ((Below.refl _ _).alloc (Nat.le_refl _) _) (Nat.le_refl _)) ⟨_, 0, none⟩ 1 1 [.string (t.extract p1 p2)] rfl rfl (cell_one_new _ _ _) (by intro u hu; simp at hu; subst hu; rfl) (by unfold maxLen; simp; omega) (by simp; omega) (by have := HB.out.size; simp; omega) ?_)
      intro v' w4 hown2 hgrow _
      have HO2 := Lib.hid (ownS_mkL (by exact hown2))
      rw [HPC.out] at HO2
      have HB2 := Lib.hid (OwnS.gby (HO.out.below ((Below.refl _ _).alloc (Nat.le_refl _) _) (Nat.le_refl _)) (HB.out.alloc HB.out.size _) (by have := HB.out.size; simp; omega) hgrow)
      clear hown2 hgrow
      go_wp2_with fail
      go_roundg (t.size + 1 - p2)
      case measure => omega
      case rel => exact ⟨p2, l ++ [P], hp2'.2, rfl, rfl, by rw [List.length_append]; simp; omega, by rw [List.map_append]; exact HO2.out, HB2.out, HA2⟩
end Go.Proofs.YtanihdpgblkeaaaGreatDoor

/-! WordsRest -/
namespace Go.Proofs.YtanihdpgblkeaaaGreatDoor
open Go.RowKit Go.Shelf
set_option linter.unusedVariables false
set_option linter.unusedSimpArgs false

theorem lies_two_ : Lies 121 2 0 := ⟨by decide, by kernel_rfl⟩
theorem bld_fresh (b : Nat) (w : World) (B : Nat) : BldIn #[.pointer none, .slice none 0 0] B b 0 w (.slice none 0 0) [] := ⟨.inl rfl, rfl, World.ownsRowF_nil _ _ _ _, by simp [Value.ownBlock]⟩
theorem RowS.new (w : World) (l : List ByteArray) (cap : Nat) (hl : l.length ≤ cap) (hne : l ≠ []) : RowS (w.alloc (.cells (l.map Value.string).toArray 9)) (.slice (some ⟨w.heap.size, 0, none⟩) l.length cap) l := by
  refine .inr ⟨_, 0, cap, rfl, by simp, fun j x hj => ?_, hl⟩
  have h := Blk.new w (l.map Value.string).toArray 9
  rw [Nat.zero_add]
  exact h.cell (by simp [hj])
set_option maxHeartbeats 1000000 in
theorem split_one (s : ByteArray) (c : UInt8) (w : World) (hs : s.size < 4294967281) :
    Calls Tryz.prog 94 #[.string s, .string ⟨#[c]⟩] w fun e w' => ∃ v, e = .returned v ∧ RowS w' v ((splitC c s.data.toList).map strL) ∧ Below w.heap.size w w' := by
  have h1 : 1 ≤ (⟨#[c]⟩ : ByteArray).size := Nat.le_refl 1
  have hle := Lib.countB_le ⟨#[c]⟩ h1 s.size s (Nat.le_refl _)
  have hlen := Lib.splitB_all ⟨#[c]⟩ h1 0 _ s rfl
  have hcnt : Lib.countB s ⟨#[c]⟩ = Lib.countByte s.data.toList c := Lib.count_one c s.data.toList
  have hsp : Lib.splitB ⟨#[c]⟩ 0 (Lib.countB s ⟨#[c]⟩) s = (splitC c s.data.toList).map strL := by
    have hd := Lib.splitB_data ⟨#[c]⟩ 0 (Lib.countB s ⟨#[c]⟩) s
    have hk := splitK_one c s.data.toList
    rw [hcnt] at hd ⊢
    have hd2 := hd.trans hk
    rw [← hd2, List.map_map]
    conv => lhs; rw [← List.map_id (Lib.splitB ⟨#[c]⟩ 0 (Lib.countByte s.data.toList c) s)]
    apply List.map_congr_left
    intro x _
    exact (strL_of x).symm
  have cc := Any.strings_genSplit_core (P := Tryz.prog) Tryz.lays221 (by kernel_rfl) s ⟨#[c]⟩ 0 (-1) (Lib.countB s ⟨#[c]⟩ + 1) w hs h1 (Nat.zero_le _)
    (fun x cs hx => (Tryz.strings_Index_one x c _).mono fun e w' ⟨he, hw⟩ => ⟨by rw [he, show Lib.indexB x ⟨#[c]⟩ = Lib.indexByte x.data.toList c from Lib.index_one _ _], hw⟩)
    ((Tryz.strings_Count_one s c w).mono fun e w' ⟨he, hw⟩ => ⟨by rw [he, hcnt], hw⟩) (by decide) (by decide) (by rw [if_pos (by decide)]; omega)
  rw [Nat.add_sub_cancel, hlen] at cc
  have e2 : Lib.cellsOf (Lib.splitB ⟨#[c]⟩ 0 (Lib.countB s ⟨#[c]⟩) s) (Lib.countB s ⟨#[c]⟩ + 1) = ((Lib.splitB ⟨#[c]⟩ 0 (Lib.countB s ⟨#[c]⟩) s).map Value.string).toArray := by rw [← hlen]; exact Lib.cellsOf_full _
  rw [e2] at cc
  rw [hsp] at cc hlen
  rw [← hlen] at cc
  have hne : (splitC c s.data.toList).map strL ≠ [] := by simp [splitC_ne]
  have CC : Hid (Calls Tryz.prog 113 #[.string s, .string ⟨#[c]⟩, .int .i64 0, .int .i64 (-1)] w fun e w' => ∃ v, e = .returned v ∧ RowS w' v ((splitC c s.data.toList).map strL) ∧ Below w.heap.size w w') := Lib.hid (cc.mono fun e w' ⟨he, hw⟩ => ⟨_, he, by rw [hw]; exact RowS.new w _ _ (Nat.le_refl _) hne, by rw [hw]; exact (Below.refl _ _).alloc (Nat.le_refl _) _⟩)
  clear cc e2 hsp hlen hle hcnt hne h1
  generalize (splitC c s.data.toList).map strL = LS at CC ⊢
  go_enter Tryz.func94, Tryz.ntmps94
  go_wp2_with fail
  refine CC.out.mono ?_
  rintro e w1 ⟨v, rfl, hr, hb⟩
  have HR := Lib.hid hr
  have HB := Lib.hid hb
  obtain ⟨p, cap, rfl⟩ := hr.len
  clear hr hb
  go_wp2_with fail
  go_ret
  exact ⟨_, rfl, HR.out, HB.out⟩
set_option maxRecDepth 100000 in
set_option maxHeartbeats 1600000 in
theorem words_lines (s : ByteArray) (hs : s.size ≤ 100000) (w : World) :
    Calls Tryz.prog 55 #[.string s] w fun e w' => ∃ v, e = .returned v ∧ RowS w' v ((linesL s.data.toList).map strL) ∧ Below w.heap.size w w' := by
  have hs63 : s.size ≤ 9223372036854775807 := by omega
  by_cases h0 : s.data.toList = []
  · have e : s = ⟨#[]⟩ := by rw [← strL_of s, h0]; rfl
    subst e
    go_enter Tryz.func55, Tryz.ntmps55
    go_wp2_with fail
    go_ret
    exact ⟨_, rfl, .inl ⟨_, _, rfl, rfl⟩, Below.refl _ _⟩
  · have hne : s.toList.isEmpty = false := by
      rw [ByteArray.toList_eq]
      cases hx : s.data.toList with
      | nil => exact absurd hx h0
      | cons a b => rfl
    have TS := Tryz.strings_TrimSuffix s ⟨#[10]⟩ w hs63
    have hle := lines_eq s.data.toList h0
    have htl := Lib.trimSuffix_le s.data.toList [10]
    have hz : s.data.toList.length = s.size := (Lib.size_eq s).symm
    have SP := fun w => split_one (strL (Lib.trimSuffix s.data.toList [10])) 10 w (by rw [strL_size]; omega)
    rw [strL_list] at SP
    rw [← hle] at SP
    have TS2 : Hid (Calls Tryz.prog 95 #[.string s, .string ⟨#[10]⟩] w fun e w' => e = .returned (.string (strL (Lib.trimSuffix s.data.toList [10]))) ∧ w' = w) := Lib.hid TS
    generalize strL (Lib.trimSuffix s.data.toList [10]) = T at TS2 SP
    have SP := Lib.hid SP
    generalize (linesL s.data.toList).map strL = LS at SP
    clear TS hle htl h0 hz
    go_enter Tryz.func55, Tryz.ntmps55
    go_wp2_with fail
    refine TS2.out.mono ?_
    rintro e w1 ⟨rfl, rfl⟩
    go_wp2_with fail
    refine (SP.out _).mono ?_
    rintro e w2 ⟨v, rfl, hr, hb⟩
    have HR := Lib.hid hr
    have HB := Lib.hid hb
    obtain ⟨p, cap, rfl⟩ := hr.len
    clear hr hb
    go_wp2_with fail
    go_ret
    exact ⟨_, rfl, HR.out, HB.out⟩
set_option maxRecDepth 100000 in
set_option maxHeartbeats 1600000 in
theorem words_joined (v : Value) (l : List (List UInt8)) (w : World) (hv : RowS w v (l.map strL)) (hl : l.length ≤ 1000000) (hlen : (Lib.join l [32]).length ≤ 100000000) :
    Calls Tryz.prog 33 #[v] w fun e w' => e = .returned (.string (strL (Lib.join l [32]))) ∧ Below w.heap.size w w' := by
  have hmm : (l.map strL).map (·.data.toList) = l := by
    rw [List.map_map]
    conv => rhs; rw [← List.map_id l]
    apply List.map_congr_left
    intro x _; rfl
  have J : Hid (Calls Tryz.prog 73 #[v, .string ⟨#[32]⟩] w fun e w' => e = .returned (.string (strL (Lib.join l [32]))) ∧ Below w.heap.size w w') := Lib.hid (by
    rcases hv with ⟨p, cap, rfl, h0⟩ | ⟨b, off, cap, rfl, hb, hc, hcap⟩
    · have : l = [] := by simpa using h0
      subst this
      exact (Tryz.strings_Join_none p cap ⟨#[32]⟩ w).mono fun e w' ⟨he, hw⟩ => ⟨he, hw ▸ Below.refl _ _⟩
    · have hx : ((l.map strL).length) ≤ 140737488355328 := by rw [List.length_map]; omega
      have hj : (Lib.join ((l.map strL).map (·.data.toList)) (⟨#[32]⟩ : ByteArray).data.toList).length ≤ 140737488355328 := by
        rw [hmm]
        refine Nat.le_trans hlen ?_
        omega
      have h := Tryz.strings_Join b off cap (l.map strL) ⟨#[32]⟩ w hc hb hx hcap hj
      rw [hmm] at h
      exact h)
  obtain ⟨p, cap, rfl⟩ := hv.len
  rw [List.length_map] at J ⊢
  generalize strL (Lib.join l [32]) = R at J ⊢
  clear hv hlen hmm
  go_enter Tryz.func33, Tryz.ntmps33
  go_wp2_with fail
  refine J.out.mono ?_
  rintro e w1 ⟨rfl, hb⟩
  have HB := Lib.hid hb
  clear hb
  go_wp2_with fail
  go_ret
  exact ⟨rfl, HB.out⟩
/-- Which one of some words a word is; whether it is one. -/
def findI (l : List ByteArray) (x : ByteArray) : Int := max (Lib.idxOfS l x) 0
def findB (l : List ByteArray) (x : ByteArray) : Bool := decide (0 ≤ Lib.idxOfS l x)
set_option maxRecDepth 100000 in
set_option maxHeartbeats 1600000 in
theorem words_find (x : ByteArray) (v : Value) (l : List ByteArray) (w : World) (hv : RowS w v l) (hl : l.length ≤ 1000000) :
    Calls Tryz.prog 42 #[.string x, v] w fun e w' => e = .returned (.tuple #[.int .i64 (findI l x), .bool (findB l x)]) ∧ w = w' := by
  have J : Hid (Calls Tryz.prog 79 #[v, .string x] w fun e w' => e = .returned (.int .i64 (Lib.idxOfS l x)) ∧ w' = w) := Lib.hid (by
    rcases hv with ⟨p, cap, rfl, rfl⟩ | ⟨b, off, cap, rfl, hb, hc, hcap⟩
    · exact Tryz.slices_Index_string_empty p cap x w
    · have h := Tryz.slices_Index_string b off l.length cap l x w (Nat.le_refl _) (by omega) (fun j hj => hc j _ (by rw [List.getD_eq_getElem?_getD, List.getElem?_eq_getElem hj]; rfl))
      rw [List.take_length] at h
      exact h)
  unfold findI findB
  obtain ⟨p, cap, rfl⟩ := hv.len
  generalize Lib.idxOfS l x = k at J
  clear hv
  go_enter Tryz.func42, Tryz.ntmps42
  by_cases h : k < 0
  · have hd : decide (0 ≤ k) = false := by simp; omega
    have hm : max k 0 = 0 := by omega
    rw [hd, hm]
    go_wp2_with fail
    refine J.out.mono ?_
    rintro e w1 ⟨rfl, rfl⟩
    go_wp2_with fail
    go_ret2
    exact ⟨rfl, rfl⟩
  · have h' : 0 ≤ k := by omega
    have hd : decide (0 ≤ k) = true := by simp; omega
    have hm : max k 0 = k := by omega
    rw [hd, hm]
    go_wp2_with fail
    refine J.out.mono ?_
    rintro e w1 ⟨rfl, rfl⟩
    go_wp2_with fail
    go_ret2
    exact ⟨rfl, rfl⟩
/-- What stands ahead of a sign, and behind it. -/
def cutR (s : ByteArray) (c : UInt8) : ByteArray × ByteArray × Bool :=
  if Lib.indexByte s.data.toList c < 0 then (⟨#[]⟩, ⟨#[]⟩, false) else (s.extract 0 (Lib.indexByte s.data.toList c).toNat, s.extract ((Lib.indexByte s.data.toList c).toNat + 1) s.size, true)
theorem textL_take (l : List (List UInt8)) (i : Nat) (x : List UInt8) (h : l[i]? = some x) : textL (l.take (i + 1)) = textL (l.take i) ++ x ++ [10] := by
  obtain ⟨hi, e⟩ := List.getElem?_eq_some_iff.1 h
  unfold textL
  rw [List.take_succ_eq_append_getElem hi, List.flatMap_append, e]
  simp
theorem textL_le (l : List (List UInt8)) (i : Nat) : (textL (l.take i)).length ≤ (textL l).length := by
  have e : textL l = textL (l.take i) ++ textL (l.drop i) := by
    unfold textL
    rw [← List.flatMap_append, List.take_append_drop]
  rw [e, List.length_append]; omega
set_option maxRecDepth 100000 in
set_option maxHeartbeats 1600000 in
theorem words_text (v : Value) (l : List (List UInt8)) (w : World) (hv : RowS w v (l.map strL)) (hl : l.length ≤ 1000000) (hlen : (textL l).length ≤ 100000000) :
    Calls Tryz.prog 53 #[v] w fun e w' => e = .returned (.string (strL (textL l))) ∧ Below w.heap.size w w' := by
  obtain ⟨p, cap, rfl⟩ := hv.len
  rw [List.length_map] at hv ⊢
  have HV := Lib.hid hv
  obtain ⟨n, hnn⟩ : ∃ n, l.length = n := ⟨_, rfl⟩
  rw [hnn] at HV hl ⊢
  have HN := Lib.hid hnn
  have HLEN := Lib.hid hlen
  have hbv : ∀ j, j < n → ∃ b off cp x, (Value.slice p n cap) = .slice (some ⟨b, off, none⟩) n cp ∧ l[j]? = some x ∧ w.cell? ⟨b, off + j, none⟩ = some (.string (strL x)) ∧ b < w.heap.size := by
    intro j hj
    rcases HV.out with ⟨_, _, _, h0⟩ | ⟨b, off, cp, e1, hb, hc, _⟩
    · have : l = [] := by simpa using h0
      rw [this] at hnn; simp at hnn; omega
    · rw [List.length_map, hnn] at e1
      have hj' : j < l.length := by omega
      exact ⟨b, off, cp, l[j], e1, List.getElem?_eq_getElem hj', hc j _ (by rw [List.getElem?_map, List.getElem?_eq_getElem hj']; rfl), hb⟩
  have HBV := Lib.hid hbv
  clear hv hnn hlen hbv HV
  obtain ⟨RES, hRES⟩ : ∃ R, strL (textL l) = R := ⟨_, rfl⟩
  rw [hRES]
  have HRES := Lib.hid hRES
  clear hRES
  go_enter Tryz.func53, Tryz.ntmps53
  go_wp2_with fail
  go_loopg [8] n (fun gg s8 wr => ∃ (i : Nat) (cs : Array Value) (v : Value), i ≤ n ∧ gg = n - i ∧ s8 = .int .i64 i ∧ cs.size = 2 ∧ Hid (Blk wr w.heap.size cs 121) ∧ Hid (BldIn cs w.heap.size w.heap.size 0 wr v (textL (l.take i))) ∧ Hid (Below w.heap.size w wr))
  case atStart => exact ⟨0, _, .slice none 0 0, by omega, rfl, rfl, rfl, Lib.hid (Blk.new w _ _), Lib.hid (bld_fresh _ _ _), Lib.hid ((Below.refl w.heap.size w).alloc (Nat.le_refl _) _)⟩
  case round =>
    obtain ⟨i, cs, v, hi', hg, rfl, hcs, HB, HBI, HL⟩ := hrel
    have hg := hg.symm
    subst hg
    have hbw := HB.out.lt
    by_cases hlt : i < n
    · obtain ⟨b, off, cp, x, e1, hx, k0, hbl⟩ := HBV.out i hlt
      cases e1
      have k2 := keepB HL.out k0 hbl
      have hP := textL_take l i x hx
      have hle1 := textL_le l (i + 1)
      have hle2 := HLEN.out
      rw [hP, List.length_append, List.length_append] at hle1
      have h1 : (textL (l.take i)).length + x.length + 1 ≤ 100000000 := by simp at hle1; omega
      have HP := Lib.hid hP
      have hiI : (i : Int) < (n : Int) := by omega
      have hi0 : (0 : Int) ≤ (i : Int) := by omega
      obtain ⟨X, hX⟩ : ∃ X, strL x = X := ⟨_, rfl⟩
      rw [hX] at k2
      have HX := Lib.hid hX
      have hXz : X.size = x.length := by rw [← hX, strL_size]
      clear k0 hx hP hle1 hle2 hX
      go_wp2_with fail
      refine (bld_writeString 121 w.heap.size 0 w.heap.size cs v _ X wr (by rw [hcs]; exact lies_two_) (by decide) HB.out HBI.out (by omega) (by omega) (Nat.le_refl _)).mono ?_
      rintro e w6 ⟨rfl, v6, hb6, hbi6, hc6, hown6⟩
      have HL6 := Lib.hid (HL.out.trans (hc6.below HL.out.size (fun k hk => by
        rcases hk with h | h
        · omega
        · have := (World.ownsRowF.lt HBI.out.2.2.1 k h.symm).1; omega)))
      have HB6 := Lib.hid hb6
      have HBI6 : Hid (BldIn (wrote cs w.heap.size 0 v6) w.heap.size w.heap.size 0 w6 v6 (textL (l.take i) ++ x)) := Lib.hid (by rw [← HX.out, strL_list] at hbi6; exact hbi6)
      have hs6 : w.heap.size < w6.heap.size := hb6.lt
      clear hb6 hbi6 hc6 hown6 k2 HB HBI HL
      go_wp2_with fail
      refine (bld_writeString 121 w.heap.size 0 w.heap.size (wrote cs w.heap.size 0 v6) v6 _ ⟨#[10]⟩ w6 (by rw [wrote_size, hcs]; exact lies_two_) (by decide) HB6.out HBI6.out (by rw [List.length_append]; show _ + 1 ≤ _; omega) (by omega) (Nat.le_refl _)).mono ?_
      rintro e w7 ⟨rfl, v7, hb7, hbi7, hc7, hown7⟩
      have HL7 := Lib.hid (HL6.out.trans (hc7.below HL6.out.size (fun k hk => by
        rcases hk with h | h
        · omega
        · have := (World.ownsRowF.lt HBI6.out.2.2.1 k h.symm).1; omega)))
      have HB7 := Lib.hid hb7
      have HBI7 : Hid (BldIn (wrote (wrote cs w.heap.size 0 v6) w.heap.size 0 v7) w.heap.size w.heap.size 0 w7 v7 (textL (l.take (i + 1)))) := Lib.hid (by rw [HP.out]; exact hbi7)
      clear hb7 hbi7 hc7 hown7
      go_wp2_with fail
      go_roundg (n - (i + 1))
      case measure => omega
      case rel => exact ⟨i + 1, _, _, by omega, rfl, by go_num, by rw [wrote_size, wrote_size]; exact hcs, HB7, HBI7, HL7⟩
    · obtain rfl : i = n := by omega
      have hst := bld_string 121 w.heap.size 0 w.heap.size cs v _ wr HB.out HBI.out (by omega)
      have HST := Lib.hid hst
      clear hst
      go_wp2_with fail
      refine HST.out.mono ?_
      rintro e w5 ⟨rfl, hb5, hbi5, hc5⟩
      have HL5 := Lib.hid (HL.out.trans (hc5.below HL.out.size (fun k hk => (World.ownsRowF.lt HBI.out.2.2.1 k hk.symm).1)))
      have HF : Hid (RES = ⟨(textL (l.take i)).toArray⟩) := Lib.hid (by
        rw [← HRES.out, List.take_of_length_le (by rw [HN.out]; exact Nat.le_refl _)]; rfl)
      clear hb5 hbi5 hc5 HST
      go_wp2_with fail
      go_ret
      exact ⟨by rw [HF.out]; rfl, HL5.out⟩
end Go.Proofs.YtanihdpgblkeaaaGreatDoor

/-! WordsRef -/
namespace Go.Proofs.YtanihdpgblkeaaaGreatDoor
open Go.RowKit
set_option linter.unusedVariables false
set_option linter.unusedSimpArgs false

theorem nil_app (X : ByteArray) : (⟨#[]⟩ : ByteArray) ++ X = X := by apply ByteArray.ext; simp
theorem byte_at (s : ByteArray) (q : Nat) (h : q < s.size) : s.data.toList[q]? = some (s[q]'h) := by
  rw [List.getElem?_eq_getElem (by rw [show s.data.toList.length = s.size from (Lib.size_eq s).symm]; exact h)]
  rfl
theorem one_at (s : ByteArray) (q : Nat) (c : UInt8) (h : s.data.toList[q]? = some c) : s.extract q (q + 1) = strL [c] := by
  apply ByteArray.ext
  apply Array.ext'
  show (s.extract q (q + 1)).data.toList = [c]
  rw [ByteArray.data_extract, Array.toList_extract, List.extract_eq_take_drop, show q + 1 - q = 1 by omega, drop_at h]
  rfl
theorem take_at {l : List UInt8} {i : Nat} {c : UInt8} (h : l[i]? = some c) : l.take (i + 1) = l.take i ++ [c] := by
  obtain ⟨hi, e⟩ := List.getElem?_eq_some_iff.1 h
  rw [List.take_succ_eq_append_getElem hi, e]
theorem join_snoc (l : List (List UInt8)) (h : l ≠ []) (x sep : List UInt8) : Lib.join (l ++ [x]) sep = Lib.join l sep ++ sep ++ x := by
  cases l with
  | nil => exact absurd rfl h
  | cons y r => rw [List.cons_append, Lib.join_cons, Lib.join_cons]; simp [Lib.joinTail]
theorem join_take (l : List (List UInt8)) (sep : List UInt8) (i : Nat) : (Lib.join (l.take i) sep).length ≤ (Lib.join l sep).length := by
  induction i generalizing l with
  | zero => rw [List.take_zero, Lib.join_nil]; exact Nat.zero_le _
  | succ i ih =>
    cases l with
    | nil => simp
    | cons y r =>
      rw [List.take_succ_cons, Lib.join_cons, Lib.join_cons, List.length_append, List.length_append]
      have := Lib.joinTail_take_le sep r i
      omega
theorem rowS_pick {w : World} {p : Option Addr} {cap n : Nat} {l : List (List UInt8)} (h : RowS w (.slice p n cap) (l.map strL)) (hn : l.length = n) : ∀ j, j < n → ∃ b off cp x, (Value.slice p n cap) = .slice (some ⟨b, off, none⟩) n cp ∧ l[j]? = some x ∧ w.cell? ⟨b, off + j, none⟩ = some (.string (strL x)) ∧ b < w.heap.size := by
  intro j hj
  rcases h with ⟨_, _, _, h0⟩ | ⟨b, off, cp, e1, hb, hc, _⟩
  · have : l = [] := by simpa using h0
    rw [this] at hn; simp at hn; omega
  · rw [List.length_map, hn] at e1
    have hj' : j < l.length := by omega
    exact ⟨b, off, cp, l[j], e1, List.getElem?_eq_getElem hj', hc j _ (by rw [List.getElem?_map, List.getElem?_eq_getElem hj']; rfl), hb⟩
theorem takeL_at {l : List (List UInt8)} {i : Nat} {x : List UInt8} (h : l[i]? = some x) : l.take (i + 1) = l.take i ++ [x] := by
  obtain ⟨hi, e⟩ := List.getElem?_eq_some_iff.1 h
  rw [List.take_succ_eq_append_getElem hi, e]
set_option maxRecDepth 100000 in
set_option maxHeartbeats 1600000 in
theorem ref06_join (v : Value) (l : List (List UInt8)) (w : World) (hv : RowS w v (l.map strL)) (hl : l.length ≤ 1000000) (hlen : (Lib.join l [32]).length ≤ 100000000) :
    Calls Tryz.prog 48 #[v] w fun e w' => e = .returned (.string (strL (Lib.join l [32]))) ∧ w = w' := by
  obtain ⟨p, cap, rfl⟩ := hv.len
  rw [List.length_map] at hv ⊢
  obtain ⟨n, hn⟩ : ∃ n, l.length = n := ⟨_, rfl⟩
  have HP := Lib.hid (rowS_pick (by rw [hn] at hv; exact hv) hn)
  rw [hn] at hl ⊢
  have HN := Lib.hid hn
  have HLEN := Lib.hid hlen
  clear hv hn hlen
  obtain ⟨RES, hRES⟩ : ∃ R, strL (Lib.join l [32]) = R := ⟨_, rfl⟩
  rw [hRES]
  have HRES := Lib.hid hRES
  clear hRES
  go_enter Tryz.func48, Tryz.ntmps48
  go_wp2_with fail
  go_loopg [3, 4] n (fun g s i wr => ∃ q : Nat, q ≤ n ∧ g = n - q ∧ i = .int .i64 q ∧ wr = w ∧ s = .string (strL (Lib.join (l.take q) [32])))
  case atStart => exact ⟨0, Nat.zero_le _, rfl, rfl, rfl, rfl⟩
  case round =>
    obtain ⟨q, hq, hg, rfl, rfl, rfl⟩ := hrel
    have hg := hg.symm
    subst hg
    by_cases hlt : q < n
    · obtain ⟨b, off, cp, x, e1, hx, k1, hbl⟩ := HP.out q hlt
      cases e1
      have hlI : (q : Int) < (n : Int) := by omega
      have hq0 : (0 : Int) ≤ (q : Int) := by omega
      have hle := join_take l [32] (q + 1)
      have hle2 := HLEN.out
      by_cases h0 : q = 0
      · subst h0
        have hJ : Lib.join (l.take (0 + 1)) [32] = x := by rw [takeL_at hx, List.take_zero, List.nil_append, Lib.join_one]
        rw [hJ] at hle
        have HJ := Lib.hid hJ
        rw [List.take_zero, Lib.join_nil]
        have hz : (strL x).size ≤ 9223372036854775807 := by rw [strL_size]; omega
        obtain ⟨X, hX⟩ : ∃ X, strL x = X := ⟨_, rfl⟩
        rw [hX] at k1 hz
        rw [Nat.add_zero] at k1
        have HX := Lib.hid hX
        have hz0 : strL [] = ⟨#[]⟩ := rfl
        rw [hz0]
        clear hle hle2 hx hJ hX hz0
        go_wp2_with fail
        go_roundg (n - (0 + 1))
        case measure => omega
        case rel => exact ⟨0 + 1, by omega, rfl, by go_num, rfl, by rw [HJ.out, HX.out, nil_app]⟩
      · have hne : l.take q ≠ [] := by
          intro e
          have := congrArg List.length e
          rw [List.length_take, HN.out] at this
          simp at this
          omega
        have hJ : Lib.join (l.take (q + 1)) [32] = Lib.join (l.take q) [32] ++ [32] ++ x := by rw [takeL_at hx, join_snoc _ hne]
        rw [hJ, List.length_append, List.length_append] at hle
        obtain ⟨A, hA⟩ : ∃ A, strL (Lib.join (l.take q) [32]) = A := ⟨_, rfl⟩
        have hAz : A.size = (Lib.join (l.take q) [32]).length := by rw [← hA, strL_size]
        obtain ⟨X, hX⟩ : ∃ X, strL x = X := ⟨_, rfl⟩
        have hXz : X.size = x.length := by rw [← hX, strL_size]
        have HJ : Hid (strL (Lib.join (l.take (q + 1)) [32]) = A ++ ⟨#[32]⟩ ++ X) := Lib.hid (by rw [hJ, strL_app, strL_app, hA, hX]; rfl)
        rw [hX] at k1
        rw [hA]
        have z1 : A.size + (⟨#[32]⟩ : ByteArray).size ≤ 9223372036854775807 := by show A.size + 1 ≤ _; omega
        have z2 : (A ++ ⟨#[32]⟩).size + X.size ≤ 9223372036854775807 := by rw [ByteArray.size_append]; show A.size + 1 + X.size ≤ _; omega
        have hqp : (0 : Int) < (q : Int) := by omega
        clear hle hle2 hx hJ hX hA hne hAz hXz
        go_wp2_with fail
        go_roundg (n - (q + 1))
        case measure => omega
        case rel => exact ⟨q + 1, by omega, rfl, by go_num, rfl, by rw [HJ.out]⟩
    · obtain rfl : q = n := by omega
      have HF : Hid (strL (Lib.join (l.take q) [32]) = RES) := Lib.hid (by rw [← HRES.out, List.take_of_length_le (by rw [HN.out]; exact Nat.le_refl _)])
      rw [HF.out]
      go_wp2_with fail
      go_ret
      exact ⟨rfl, rfl⟩
end Go.Proofs.YtanihdpgblkeaaaGreatDoor

/-! WordsRefL -/
namespace Go.Proofs.YtanihdpgblkeaaaGreatDoor
open Go.RowKit
set_option linter.unusedVariables false
set_option linter.unusedSimpArgs false

theorem map_snoc (l : List (List UInt8)) (x : List UInt8) : l.map strL ++ [strL x] = (l ++ [x]).map strL := by simp
set_option maxRecDepth 100000 in
set_option maxHeartbeats 3200000 in
theorem ref06_lines (s : ByteArray) (hs : s.size ≤ 100000) (w : World) :
    Calls Tryz.prog 57 #[.string s] w fun e w' => ∃ v, e = .returned v ∧ OwnS w.heap.size w' v ((linesL s.data.toList).map strL) ∧ Below w.heap.size w w' := by
  obtain ⟨i0, hi, hz, hsize, hby⟩ : ∃ i, Tryz.prog.info? 9 = some i ∧ i.zero = some (.string ⟨#[]⟩) ∧ i.size = 1 ∧ i.bytes = 16 := ⟨_, rfl, rfl, rfl, rfl⟩
  have HI := Lib.hid hi
  clear hi
  have hs63 : s.size ≤ 9223372036854775807 := by omega
  have hzl : s.data.toList.length = s.size := (Lib.size_eq s).symm
  obtain ⟨RL, hRL⟩ : ∃ r, linesL s.data.toList = r := ⟨_, rfl⟩
  rw [hRL]
  have HRL : Hid ([] ++ refL [] false (s.data.toList.drop 0) = RL) := Lib.hid hRL
  clear hRL
  go_enter Tryz.func57, Tryz.ntmps57
  go_wp2_with fail
  go_loopg [3, 4, 5, 6] s.size (fun g v ln op at_ wr => ∃ (k : Nat) (l : List (List UInt8)) (line : List UInt8) (o : Bool), k ≤ s.size ∧ g = s.size - k ∧ at_ = .int .i64 k ∧ ln = .string (strL line) ∧ op = .bool o ∧ l.length ≤ k ∧ line.length ≤ k ∧ OwnS w.heap.size wr v (l.map strL) ∧ Below w.heap.size w wr ∧ Hid (l ++ refL line o (s.data.toList.drop k) = RL))
  case atStart => exact ⟨0, [], [], false, by omega, rfl, rfl, rfl, rfl, by simp, by simp, OwnS.nil _ _, Below.refl _ _, HRL⟩
  case round =>
    obtain ⟨k, l, line, o, hk, hg, rfl, rfl, rfl, hl, hln, hown, hbl, HA⟩ := hrel
    have hg := hg.symm
    subst hg
    have HO := Lib.hid hown
    have HB := Lib.hid hbl
    clear hown hbl HRL
    obtain ⟨LN, hLN⟩ : ∃ LN, strL line = LN := ⟨_, rfl⟩
    have hLz : LN.size = line.length := by rw [← hLN, strL_size]
    rw [hLN]
    have HLN := Lib.hid hLN
    clear hLN
    by_cases hlt : k < s.size
    · obtain ⟨c, hc⟩ : ∃ c, s[k]'hlt = c := ⟨_, rfl⟩
      have hget : s.data.toList[k]? = some c := by rw [byte_at s k hlt, hc]
      have hby2 : (((s[k]'hlt).toNat : Nat) : Int) = (c.toNat : Int) := by rw [hc]
      have hlI : (k : Int) < (s.size : Int) := by omega
      have hk0 : (0 : Int) ≤ (k : Int) := by omega
      by_cases h10 : c = 10
      · subst h10
        have HA2 : Hid ((l ++ [line]) ++ refL [] false (s.data.toList.drop (k + 1)) = RL) := Lib.hid (by rw [← HA.out, drop_at hget]; simp [refL])
        clear hget hc HA
        go_wp2_with (at_builtin; refine wpList_append_own _ rfl _ _ 67 rfl w.heap.size 9 i0 (.string ⟨#[]⟩) 1 16 Tryz.underlying67 HI.out hz hsize hby rfl (by decide) _ (l.map strL).length ((l.map strL).map Value.string) rfl (HO.out.below ((Below.refl _ _).alloc (Nat.le_refl _) _) (Nat.le_refl _)) ⟨_, 0, none⟩ 1 1 [.string LN] rfl rfl (cell_one_new _ _ _) (by intro u hu; simp at hu; subst hu; rfl) (by unfold maxLen; simp; omega) (by simp; omega) (by have := HB.out.size; simp; omega) ?_)
        intro v' w4 hown2 hgrow _
        have HO2 := Lib.hid (ownS_mkL (by exact hown2))
        rw [← HLN.out] at HO2
        have HB2 := Lib.hid (OwnS.gby (HO.out.below ((Below.refl _ _).alloc (Nat.le_refl _) _) (Nat.le_refl _)) (HB.out.alloc HB.out.size _) (by have := HB.out.size; simp; omega) hgrow)
        clear hown2 hgrow
        go_wp2_with fail
        go_roundg (s.size - (k + 1))
        case measure => omega
        case rel => exact ⟨k + 1, l ++ [line], [], false, by omega, rfl, by go_num, rfl, rfl, by rw [List.length_append]; simp; omega, by simp, by rw [← map_snoc]; exact HO2.out, HB2.out, HA2⟩
      · have g1 : (c == 10) = false := beq_eq_false_iff_ne.2 h10
        have g3 : ((c.toNat : Int) == 10) = false := by
          rw [beq_eq_false_iff_ne]; intro e; apply h10; rw [← UInt8.toNat_inj]; show c.toNat = 10; omega
        have HA2 : Hid (l ++ refL (line ++ [c]) true (s.data.toList.drop (k + 1)) = RL) := Lib.hid (by rw [← HA.out, drop_at hget]; conv => rhs; unfold refL; rw [if_neg h10])
        have HP : Hid (LN ++ s.extract k (k + 1) = strL (line ++ [c])) := Lib.hid (by rw [one_at s k c hget, strL_app, HLN.out])
        have hw : IntKind.i64.wrap ((k : Int) + 1) = ((k + 1 : Nat) : Int) := by rw [IntKind.wrap_i64]; omega
        obtain ⟨k1, hk1⟩ : ∃ k1, k + 1 = k1 := ⟨_, rfl⟩
        rw [hk1] at hw HP HA2
        have q1 : (k : Int) ≤ (k1 : Int) := by omega
        have q2 : (k1 : Int) ≤ (s.size : Int) := by omega
        have z1 : LN.size + (s.extract k k1).size ≤ 9223372036854775807 := by rw [ByteArray.size_extract]; omega
        clear hget hc HA hLz
        go_wp2_with fail
        go_roundg (s.size - (k + 1))
        case measure => omega
        case rel => exact ⟨k1, l, line ++ [c], true, by omega, by rw [hk1], (by rw [← hk1]; try go_num), by rw [← HP.out], rfl, by omega, by rw [List.length_append]; simp; omega, HO.out, HB.out, HA2⟩
    · obtain rfl : k = s.size := by omega
      have HA2 : Hid (l ++ (if o then [line] else []) = RL) := Lib.hid (by rw [← HA.out, List.drop_eq_nil_of_le (by omega)]; rfl)
      clear HA
      cases o with
      | false =>
        have HF : Hid (l = RL) := Lib.hid (by rw [← HA2.out]; simp)
        go_wp2_with fail
        go_ret
        rw [← HF.out]
        exact ⟨_, rfl, HO.out, HB.out⟩
      | true =>
        have HF : Hid (l ++ [line] = RL) := Lib.hid (by rw [← HA2.out]; simp)
        go_wp2_with (at_builtin; refine wpList_append_own _ rfl _ _ 67 rfl w.heap.size 9 i0 (.string ⟨#[]⟩) 1 16 Tryz.underlying67 HI.out hz hsize hby rfl (by decide) _ (l.map strL).length ((l.map strL).map Value.string) rfl (HO.out.below ((Below.refl _ _).alloc (Nat.le_refl _) _) (Nat.le_refl _)) ⟨_, 0, none⟩ 1 1 [.string LN] rfl rfl (cell_one_new _ _ _) (by intro u hu; simp at hu; subst hu; rfl) (by unfold maxLen; simp; omega) (by simp; omega) (by have := HB.out.size; simp; omega) ?_)
        intro v' w4 hown2 hgrow _
        have HO2 := Lib.hid (ownS_mkL (by exact hown2))
        rw [← HLN.out] at HO2
        have HB2 := Lib.hid (OwnS.gby (HO.out.below ((Below.refl _ _).alloc (Nat.le_refl _) _) (Nat.le_refl _)) (HB.out.alloc HB.out.size _) (by have := HB.out.size; simp; omega) hgrow)
        clear hown2 hgrow
        go_wp2_with fail
        go_ret
        rw [← HF.out]
        exact ⟨_, rfl, by rw [← map_snoc]; exact HO2.out, HB2.out⟩
set_option maxRecDepth 100000 in
set_option maxHeartbeats 3200000 in
theorem ref06_words (s : ByteArray) (hs : s.size ≤ 100000) (w : World) :
    Calls Tryz.prog 45 #[.string s] w fun e w' => ∃ v, e = .returned v ∧ OwnS w.heap.size w' v ((wordsL s.data.toList).map strL) ∧ Below w.heap.size w w' := by
  obtain ⟨i0, hi, hz, hsize, hby⟩ : ∃ i, Tryz.prog.info? 9 = some i ∧ i.zero = some (.string ⟨#[]⟩) ∧ i.size = 1 ∧ i.bytes = 16 := ⟨_, rfl, rfl, rfl, rfl⟩
  have HI := Lib.hid hi
  clear hi
  have hs63 : s.size ≤ 9223372036854775807 := by omega
  have hzl : s.data.toList.length = s.size := (Lib.size_eq s).symm
  obtain ⟨RL, hRL⟩ : ∃ r, wordsL s.data.toList = r := ⟨_, rfl⟩
  rw [hRL]
  have HRL : Hid ([] ++ refW [] (s.data.toList.drop 0) = RL) := Lib.hid hRL
  clear hRL
  go_enter Tryz.func45, Tryz.ntmps45
  go_wp2_with fail
  go_loopg [3, 4, 5] s.size (fun g v ln at_ wr => ∃ (k : Nat) (l : List (List UInt8)) (line : List UInt8), k ≤ s.size ∧ g = s.size - k ∧ at_ = .int .i64 k ∧ ln = .string (strL line) ∧ l.length ≤ k ∧ line.length ≤ k ∧ OwnS w.heap.size wr v (l.map strL) ∧ Below w.heap.size w wr ∧ Hid (l ++ refW line (s.data.toList.drop k) = RL))
  case atStart => exact ⟨0, [], [], by omega, rfl, rfl, rfl, by simp, by simp, OwnS.nil _ _, Below.refl _ _, HRL⟩
  case round =>
    obtain ⟨k, l, line, hk, hg, rfl, rfl, hl, hln, hown, hbl, HA⟩ := hrel
    have hg := hg.symm
    subst hg
    have HO := Lib.hid hown
    have HB := Lib.hid hbl
    clear hown hbl HRL
    obtain ⟨LN, hLN⟩ : ∃ LN, strL line = LN := ⟨_, rfl⟩
    have hLz : LN.size = line.length := by rw [← hLN, strL_size]
    have hLe : LN.toList.isEmpty = decide (line = []) := by
      rw [← hLN, ByteArray.toList_eq]
      show line.isEmpty = _
      cases line <;> simp
    rw [hLN]
    have HLN := Lib.hid hLN
    clear hLN
    have hstop : k = s.size ∨ (∃ h : k < s.size, s[k]'h = 35) → Hid (l ++ (if line = [] then [] else [line]) = RL) := by
      intro h
      refine Lib.hid ?_
      rcases h with h | ⟨h, hc⟩
      · rw [← HA.out, List.drop_eq_nil_of_le (by omega)]; rfl
      · rw [← HA.out, drop_at (byte_at s k h), hc]; simp [refW]
    have HST := Lib.hid hstop
    clear hstop
    by_cases hend : k = s.size ∨ (∃ h : k < s.size, s[k]'h = 35)
    · have HA2 := HST.out hend
      clear HA HST
      by_cases hle : line = []
      · have he : LN.toList.isEmpty = true := by rw [hLe]; simp [hle]
        have HF : Hid (l = RL) := Lib.hid (by rw [← HA2.out, if_pos hle]; simp)
        clear hLe
        rcases hend with rfl | ⟨hlt, hc⟩
        · go_wp2_with fail
          go_ret
          rw [← HF.out]
          exact ⟨_, rfl, HO.out, HB.out⟩
        · have hby2 : (((s[k]'hlt).toNat : Nat) : Int) = 35 := by rw [hc]; rfl
          have hlI : (k : Int) < (s.size : Int) := by omega
          have hk0 : (0 : Int) ≤ (k : Int) := by omega
          go_wp2_with fail
          go_ret
          rw [← HF.out]
          exact ⟨_, rfl, HO.out, HB.out⟩
      · have he : LN.toList.isEmpty = false := by rw [hLe]; simp [hle]
        have HF : Hid (l ++ [line] = RL) := Lib.hid (by rw [← HA2.out, if_neg hle])
        clear hLe
        rcases hend with rfl | ⟨hlt, hc⟩
        · go_wp2_with (at_builtin; refine wpList_append_own _ rfl _ _ 67 rfl w.heap.size 9 i0 (.string ⟨#[]⟩) 1 16 Tryz.underlying67 HI.out hz hsize hby rfl (by decide) _ (l.map strL).length ((l.map strL).map Value.string) rfl (HO.out.below ((Below.refl _ _).alloc (Nat.le_refl _) _) (Nat.le_refl _)) ⟨_, 0, none⟩ 1 1 [.string LN] rfl rfl (cell_one_new _ _ _) (by intro u hu; simp at hu; subst hu; rfl) (by unfold maxLen; simp; omega) (by simp; omega) (by have := HB.out.size; simp; omega) ?_)
          intro v' w4 hown2 hgrow _
          have HO2 := Lib.hid (ownS_mkL (by exact hown2))
          rw [← HLN.out] at HO2
          have HB2 := Lib.hid (OwnS.gby (HO.out.below ((Below.refl _ _).alloc (Nat.le_refl _) _) (Nat.le_refl _)) (HB.out.alloc HB.out.size _) (by have := HB.out.size; simp; omega) hgrow)
          clear hown2 hgrow
          go_wp2_with fail
          go_ret
          rw [← HF.out]
          exact ⟨_, rfl, by rw [← map_snoc]; exact HO2.out, HB2.out⟩
        · have hby2 : (((s[k]'hlt).toNat : Nat) : Int) = 35 := by rw [hc]; rfl
          have hlI : (k : Int) < (s.size : Int) := by omega
          have hk0 : (0 : Int) ≤ (k : Int) := by omega
          go_wp2_with (at_builtin; refine wpList_append_own _ rfl _ _ 67 rfl w.heap.size 9 i0 (.string ⟨#[]⟩) 1 16 Tryz.underlying67 HI.out hz hsize hby rfl (by decide) _ (l.map strL).length ((l.map strL).map Value.string) rfl (HO.out.below ((Below.refl _ _).alloc (Nat.le_refl _) _) (Nat.le_refl _)) ⟨_, 0, none⟩ 1 1 [.string LN] rfl rfl (cell_one_new _ _ _) (by intro u hu; simp at hu; subst hu; rfl) (by unfold maxLen; simp; omega) (by simp; omega) (by have := HB.out.size; simp; omega) ?_)
          intro v' w4 hown2 hgrow _
          have HO2 := Lib.hid (ownS_mkL (by exact hown2))
          rw [← HLN.out] at HO2
          have HB2 := Lib.hid (OwnS.gby (HO.out.below ((Below.refl _ _).alloc (Nat.le_refl _) _) (Nat.le_refl _)) (HB.out.alloc HB.out.size _) (by have := HB.out.size; simp; omega) hgrow)
          clear hown2 hgrow
          go_wp2_with fail
          go_ret
          rw [← HF.out]
          exact ⟨_, rfl, by rw [← map_snoc]; exact HO2.out, HB2.out⟩
    · have hlt : k < s.size := by
        by_cases h : k = s.size
        · exact absurd (.inl h) hend
        · omega
      obtain ⟨c, hc⟩ : ∃ c, s[k]'hlt = c := ⟨_, rfl⟩
      have h35 : c ≠ 35 := by
        intro e; apply hend; exact .inr ⟨hlt, by rw [hc, e]⟩
      have hget : s.data.toList[k]? = some c := by rw [byte_at s k hlt, hc]
      have hby2 : (((s[k]'hlt).toNat : Nat) : Int) = (c.toNat : Int) := by rw [hc]
      have hlI : (k : Int) < (s.size : Int) := by omega
      have hk0 : (0 : Int) ≤ (k : Int) := by omega
      have g1 : (c == 35) = false := beq_eq_false_iff_ne.2 h35
      have g3 : ((c.toNat : Int) == 35) = false := by
        rw [beq_eq_false_iff_ne]; intro e; apply h35; rw [← UInt8.toNat_inj]; show c.toNat = 35; omega
      have hstep : l ++ (if isB c = true then (if line = [] then refW [] (s.data.toList.drop (k + 1)) else line :: refW [] (s.data.toList.drop (k + 1))) else refW (line ++ [c]) (s.data.toList.drop (k + 1))) = RL := by
        rw [← HA.out, drop_at hget]
        conv => rhs; unfold refW
        rw [if_neg h35]
      have HSTEP := Lib.hid hstep
      clear hend HST HA hstep hc
      by_cases hb : isB c = true
      · have hcc : c = 32 ∨ c = 9 := by unfold isB at hb; simpa using hb
        by_cases hle : line = []
        · have he : LN.toList.isEmpty = true := by rw [hLe]; simp [hle]
          have HA2 : Hid (l ++ refW [] (s.data.toList.drop (k + 1)) = RL) := Lib.hid (by rw [← HSTEP.out, if_pos hb, if_pos hle])
          clear hLe hget hb HSTEP
          rcases hcc with rfl | rfl
          all_goals (
            go_wp2_with fail
            go_roundg (s.size - (k + 1))
            case measure => omega
            case rel => exact ⟨k + 1, l, [], by omega, rfl, by go_num, rfl, by omega, by simp, HO.out, HB.out, HA2⟩)
        · have he : LN.toList.isEmpty = false := by rw [hLe]; simp [hle]
          have HA2 : Hid ((l ++ [line]) ++ refW [] (s.data.toList.drop (k + 1)) = RL) := Lib.hid (by rw [← HSTEP.out, if_pos hb, if_neg hle]; simp)
          clear hLe hget hb HSTEP
          rcases hcc with rfl | rfl
          all_goals (
            go_wp2_with (at_builtin; refine wpList_append_own _ rfl _ _ 67 rfl w.heap.size 9 i0 (.string ⟨#[]⟩) 1 16 Tryz.underlying67 HI.out hz hsize hby rfl (by decide) _ (l.map strL).length ((l.map strL).map Value.string) rfl (HO.out.below ((Below.refl _ _).alloc (Nat.le_refl _) _) (Nat.le_refl _)) ⟨_, 0, none⟩ 1 1 [.string LN] rfl rfl (cell_one_new _ _ _) (by intro u hu; simp at hu; subst hu; rfl) (by unfold maxLen; simp; omega) (by simp; omega) (by have := HB.out.size; simp; omega) ?_)
            intro v' w4 hown2 hgrow _
            have HO2 := Lib.hid (ownS_mkL (by exact hown2))
            rw [← HLN.out] at HO2
            have HB2 := Lib.hid (OwnS.gby (HO.out.below ((Below.refl _ _).alloc (Nat.le_refl _) _) (Nat.le_refl _)) (HB.out.alloc HB.out.size _) (by have := HB.out.size; simp; omega) hgrow)
            clear hown2 hgrow
            go_wp2_with fail
            go_roundg (s.size - (k + 1))
            case measure => omega
            case rel => exact ⟨k + 1, l ++ [line], [], by omega, rfl, by go_num, rfl, by rw [List.length_append]; simp; omega, by simp, by rw [← map_snoc]; exact HO2.out, HB2.out, HA2⟩)
      · have hcc : c ≠ 32 ∧ c ≠ 9 := by unfold isB at hb; simpa using hb
        have HA2 : Hid (l ++ refW (line ++ [c]) (s.data.toList.drop (k + 1)) = RL) := Lib.hid (by rw [← HSTEP.out, if_neg hb])
        have HP : Hid (LN ++ s.extract k (k + 1) = strL (line ++ [c])) := Lib.hid (by rw [one_at s k c hget, strL_app, HLN.out])
        have f1 : (c == 32) = false := beq_eq_false_iff_ne.2 hcc.1
        have f2 : (c == 9) = false := beq_eq_false_iff_ne.2 hcc.2
        have f3 : ((c.toNat : Int) == 32) = false := by
          rw [beq_eq_false_iff_ne]; intro e; apply hcc.1; rw [← UInt8.toNat_inj]; show c.toNat = 32; omega
        have f4 : ((c.toNat : Int) == 9) = false := by
          rw [beq_eq_false_iff_ne]; intro e; apply hcc.2; rw [← UInt8.toNat_inj]; show c.toNat = 9; omega
        have hw : IntKind.i64.wrap ((k : Int) + 1) = ((k + 1 : Nat) : Int) := by rw [IntKind.wrap_i64]; omega
        obtain ⟨k1, hk1⟩ : ∃ k1, k + 1 = k1 := ⟨_, rfl⟩
        rw [hk1] at hw HP HA2
        have q1 : (k : Int) ≤ (k1 : Int) := by omega
        have q2 : (k1 : Int) ≤ (s.size : Int) := by omega
        have z1 : LN.size + (s.extract k k1).size ≤ 9223372036854775807 := by rw [ByteArray.size_extract]; omega
        have n32 : ((c.toNat : Int) != 32) = true := by rw [bne, f3]; rfl
        have n9 : ((c.toNat : Int) != 9) = true := by rw [bne, f4]; rfl
        have e32 : ¬ (c.toNat : Int) = 32 := by
          intro e; apply hcc.1; rw [← UInt8.toNat_inj]; show c.toNat = 32; omega
        have e9 : ¬ (c.toNat : Int) = 9 := by
          intro e; apply hcc.2; rw [← UInt8.toNat_inj]; show c.toNat = 9; omega
        clear hget hLz hLe hb hcc HSTEP
        go_wp2_with fail
        go_roundg (s.size - (k + 1))
        case measure => omega
        case rel => exact ⟨k1, l, line ++ [c], by omega, by rw [hk1], (by rw [← hk1]; try go_num), by rw [← HP.out], by omega, by rw [List.length_append]; simp; omega, HO.out, HB.out, HA2⟩
end Go.Proofs.YtanihdpgblkeaaaGreatDoor

/-! Awake06 -/
namespace Go.Proofs.YtanihdpgblkeaaaGreatDoor
open Go.RowKit
set_option linter.unusedVariables false
set_option linter.unusedSimpArgs false

theorem aw6_find : findI [strL [97], strL [98]] (strL [98]) = 1 ∧ findB [strL [97], strL [98]] (strL [98]) = true := by decide
theorem aw6_cut : cutR ⟨#[120, 61, 121, 61, 122]⟩ 61 = (⟨#[120]⟩, ⟨#[121, 61, 122]⟩, true) := by kernel_rfl
theorem aw6_words : wordsL [32, 97, 9, 32, 98, 35, 99] = [[97], [98]] := by simp [wordsL, refW, isB]
theorem aw6_lines : linesL [97, 10, 10, 98] = [[97], [], [98]] := by simp [linesL, refL]
theorem rowS_two (w : World) (a b : ByteArray) : RowS (w.alloc (.cells #[.string a, .string b] 9)) (.slice (some ⟨w.heap.size, 0, none⟩) 2 2) [a, b] := RowS.new w [a, b] 2 (Nat.le_refl _) (by simp)
theorem rowS_three (w : World) (a b c : ByteArray) : RowS (w.alloc (.cells #[.string a, .string b, .string c] 9)) (.slice (some ⟨w.heap.size, 0, none⟩) 3 3) [a, b, c] := RowS.new w [a, b, c] 3 (Nat.le_refl _) (by simp)
theorem rowS_one (w : World) (a : ByteArray) : RowS (w.alloc (.cells #[.string a] 9)) (.slice (some ⟨w.heap.size, 0, none⟩) 1 1) [a] := RowS.new w [a] 1 (Nat.le_refl _) (by simp)
theorem aw6_F (w : World) : Calls Tryz.prog 42 #[.string ⟨#[98]⟩, .slice (some ⟨w.heap.size, 0, none⟩) 2 2] (w.alloc (.cells #[.string ⟨#[97]⟩, .string ⟨#[98]⟩] 9)) fun e w' => e = .returned (.tuple #[.int .i64 1, .bool true]) ∧ (w.alloc (.cells #[.string ⟨#[97]⟩, .string ⟨#[98]⟩] 9)) = w' := by
  refine (words_find (strL [98]) _ [strL [97], strL [98]] _ (rowS_two w (strL [97]) (strL [98])) (by simp)).mono ?_
  rintro e w' ⟨rfl, rfl⟩
  rw [aw6_find.1, aw6_find.2]
  exact ⟨rfl, rfl⟩
theorem aw6_W (w : World) : Calls Tryz.prog 41 #[.string ⟨#[32, 97, 9, 32, 98, 35, 99]⟩] w fun e w' => ∃ v, e = .returned v ∧ RowS w' v [⟨#[97]⟩, ⟨#[98]⟩] ∧ Below w.heap.size w w' := by
  refine (words_words ⟨#[32, 97, 9, 32, 98, 35, 99]⟩ (by decide) w).mono ?_
  rintro e w' ⟨v, he, ho, hb⟩
  refine ⟨v, he, ?_, hb⟩
  have := ho.row
  rw [show wordsL (⟨#[32, 97, 9, 32, 98, 35, 99]⟩ : ByteArray).data.toList = [[97], [98]] from aw6_words] at this
  exact this
theorem aw6_L (w : World) : Calls Tryz.prog 55 #[.string ⟨#[97, 10, 10, 98]⟩] w fun e w' => ∃ v, e = .returned v ∧ RowS w' v [⟨#[97]⟩, ⟨#[]⟩, ⟨#[98]⟩] ∧ Below w.heap.size w w' := by
  refine (words_lines ⟨#[97, 10, 10, 98]⟩ (by decide) w).mono ?_
  rintro e w' ⟨v, he, ho, hb⟩
  refine ⟨v, he, ?_, hb⟩
  rw [show linesL (⟨#[97, 10, 10, 98]⟩ : ByteArray).data.toList = [[97], [], [98]] from aw6_lines] at ho
  exact ho
theorem aw6_T (w : World) : Calls Tryz.prog 53 #[.slice (some ⟨w.heap.size, 0, none⟩) 1 1] (w.alloc (.cells #[.string ⟨#[97]⟩] 9)) fun e w' => e = .returned (.string ⟨#[97, 10]⟩) ∧ Below (w.heap.size + 1) (w.alloc (.cells #[.string ⟨#[97]⟩] 9)) w' := by
  have h := words_text _ [[97]] _ (rowS_one w (strL [97])) (by simp) (by simp [textL])
  rw [show (w.alloc (.cells #[.string (strL [97])] 9)).heap.size = w.heap.size + 1 by simp] at h
  refine h.mono ?_
  rintro e w' ⟨rfl, hb⟩
  exact ⟨rfl, hb⟩
end Go.Proofs.YtanihdpgblkeaaaGreatDoor

/-! WordsIn -/
namespace Go.Proofs.YtanihdpgblkeaaaGreatDoor
open Go.RowKit
set_option linter.unusedVariables false
set_option linter.unusedSimpArgs false

theorem isStrs_row {w : World} {a : Option Addr} {len cap : Nat} {zs : List ByteArray} (h : IsStrs w a len cap zs) : ∃ L : List (List UInt8), RowS w (.slice a len cap) (L.map strL) ∧ L.length = len ∧ len ≤ maxLen ∧ ∀ x ∈ L, x.length ≤ maxLen := by
  rcases isStrs_cases h with rfl | ⟨b, off, rfl, h0, h1, h2, h3, h4, h5, h6⟩
  · exact ⟨[], .inl ⟨_, _, rfl, rfl⟩, rfl, Nat.zero_le _, by simp⟩
  · have hm : ((zs.take len).map (·.data.toList)).map strL = zs.take len := by
      rw [List.map_map]
      conv => rhs; rw [← List.map_id (zs.take len)]
      apply List.map_congr_left
      intro x _
      exact strL_of x
    have hl : ((zs.take len).map (·.data.toList)).length = len := by rw [List.length_map, List.length_take]; omega
    refine ⟨(zs.take len).map (·.data.toList), ?_, hl, h1, ?_⟩
    · rw [hm]
      have hz : (zs.take len).length = len := by rw [List.length_take]; omega
      refine .inr ⟨b, off, cap, by rw [hz], h3, fun j x hj => ?_, by rw [hz]; exact h2⟩
      have hjl : j < len := by have := (List.getElem?_eq_some_iff.1 hj).1; rw [hz] at this; exact this
      rw [h4 j hjl]
      rw [List.getElem?_take_of_lt hjl] at hj
      rw [List.getD_eq_getElem?_getD, hj]; rfl
    · intro x hx
      rw [List.mem_map] at hx
      obtain ⟨s, hs, rfl⟩ := hx
      obtain ⟨j, hj, rfl⟩ := List.getElem_of_mem hs
      have hjl : j < len := by rw [List.length_take] at hj; omega
      have := h5 j hjl
      rw [List.getD_eq_getElem?_getD] at this
      rw [List.getElem_take]
      rw [List.getElem?_eq_getElem (by rw [List.length_take] at hj; omega)] at this
      rw [← Lib.size_eq]
      exact this
theorem lens_le (l : List (List UInt8)) (h : ∀ x ∈ l, x.length ≤ 100) : Lib.lens l ≤ 100 * l.length := by
  induction l with
  | nil => simp [Lib.lens]
  | cons x r ih =>
    have h1 := h x (by simp)
    have h2 := ih (fun y hy => h y (by simp [hy]))
    simp only [Lib.lens, List.map_cons, List.sum_cons, List.length_cons] at h2 ⊢
    omega
theorem join_le (l : List (List UInt8)) (h : ∀ x ∈ l, x.length ≤ 100) : (Lib.join l [32]).length ≤ 101 * l.length := by
  cases l with
  | nil => simp [Lib.join_nil]
  | cons x r =>
    have h1 := h x (by simp)
    have h2 := lens_le r (fun y hy => h y (by simp [hy]))
    rw [Lib.join_cons, List.length_append, Lib.joinTail_length]
    simp only [List.length_cons, List.length_nil]
    omega
theorem text_le (l : List (List UInt8)) (h : ∀ x ∈ l, x.length ≤ 100) : (textL l).length ≤ 101 * l.length := by
  induction l with
  | nil => simp [textL]
  | cons x r ih =>
    have h1 := h x (by simp)
    have h2 := ih (fun y hy => h y (by simp [hy]))
    have e : textL (x :: r) = x ++ [10] ++ textL r := by simp [textL]
    rw [e, List.length_append, List.length_append]
    simp only [List.length_cons, List.length_nil]
    omega
end Go.Proofs.YtanihdpgblkeaaaGreatDoor
