/-
  StrRow, WordsMath, Words, WordsRest in one text.
-/
import Derived.Test.YtcibeiehdjekiaaGreatDoorMem
import Derived.Laws.AppendOwn
import Derived.Maps.AppendAt
import Derived.BigQuiet
import Derived.Lib.SplitLaws
import Derived.Lib.Join
import Derived.Lib.Strings
import Derived.Test.YtcibeiehdjekiaaGreatDoorShelf
import Derived.WalkMore
import Derived.Lib.SlicesS
/-! StrRow -/
namespace Go.Proofs.YtcibeiehdjekiaaGreatDoor
open Go.RowKit
set_option linter.unusedVariables false
set_option linter.unusedSimpArgs false

theorem below_drewN (w : World) (n : Nat) : Below w.heap.size w (w.drewN n) := ⟨rfl, rfl, rfl, Nat.le_refl _, fun _ _ => rfl⟩
/-- A row of texts of the call's own. -/
def OwnS (B : Nat) (w : World) (v : Value) (l : List ByteArray) : Prop := w.ownsRow B 9 1 v l.length (l.map Value.string)
theorem OwnS.nil (B : Nat) (w : World) : OwnS B w (.slice none 0 0) [] := ⟨rfl, .inl ⟨rfl, rfl⟩⟩
theorem OwnS.below {B C : Nat} {w w' : World} {v : Value} {l : List ByteArray} (h : OwnS B w v l) (hb : Below C w w') (hC : w.heap.size ≤ C) : OwnS B w' v l := by
  obtain ⟨h1, h2 | ⟨g, cap, cur, rfl, hg, hh, rest⟩⟩ := h
  · exact ⟨h1, .inl h2⟩
  · refine ⟨h1, .inr ⟨g, cap, cur, rfl, hg, ?_, rest⟩⟩
    rw [← hh]
    exact hb.block g (Nat.lt_of_lt_of_le (Array.getElem?_eq_some_iff.1 hh).1 hC)

theorem OwnS.gby {B : Nat} {w0 w1 w2 : World} {v : Value} {l : List ByteArray} (h : OwnS B w1 v l) (hb : Below B w0 w1) (hB : B ≤ w1.heap.size) (hg : w1.grownBy w2 v.ownBlock) : Below B w0 w2 := by
  refine hb.trans ⟨hg.os, hg.tape, hg.output, hg.size, fun k hk => hg.block k (Nat.lt_of_lt_of_le hk hB) (fun e => ?_)⟩
  obtain ⟨_, ⟨rfl, _⟩ | ⟨g, cap, cur, rfl, hg1, _⟩⟩ := h
  · cases e
  · have : g = k := by have e2 := e.symm; simpa [Value.ownBlock] using e2
    omega
theorem OwnS.mk {B : Nat} {w : World} {v : Value} {l : List ByteArray} {b : ByteArray} (h : w.ownsRow B 9 1 v (l.length + 1) (l.map Value.string ++ [Value.string b])) : OwnS B w v (l ++ [b]) := by
  unfold OwnS
  rw [List.length_append, List.map_append]
  exact h

/-- A slice that holds texts. -/
def RowS (w : World) (v : Value) (l : List ByteArray) : Prop :=
  (∃ p cap, v = .slice p 0 cap ∧ l = []) ∨ ∃ b off cap, v = .slice (some ⟨b, off, none⟩) l.length cap ∧ b < w.heap.size ∧ (∀ j x, l[j]? = some x → w.cell? ⟨b, off + j, none⟩ = some (.string x)) ∧ l.length ≤ cap
theorem OwnS.row {B : Nat} {w : World} {v : Value} {l : List ByteArray} (h : OwnS B w v l) : RowS w v l := by
  have hc := fun g (hg : v.ownBlock = some g) => World.ownsRow.cells h (g := g) hg
  obtain ⟨h1, ⟨rfl, h2⟩ | ⟨g, cap, cur, rfl, hg, hh, hnc, _⟩⟩ := h
  · exact .inl ⟨none, 0, rfl, List.eq_nil_of_length_eq_zero h2⟩
  · refine .inr ⟨g, 0, cap, rfl, (Array.getElem?_eq_some_iff.1 hh).1, fun j x hj => ?_, hnc⟩
    have := hc g rfl j (.string x) (by rw [List.getElem?_map, hj]; rfl)
    rw [Nat.zero_add]; have e : (⟨g, 0, none⟩ : Addr).add j = ⟨g, j, none⟩ := by simp [Addr.add]; intro h; exact h.symm
    rw [e] at this; exact this
theorem RowS.below {C : Nat} {w w' : World} {v : Value} {l : List ByteArray} (h : RowS w v l) (hb : Below C w w') (hC : w.heap.size ≤ C) : RowS w' v l := by
  rcases h with h | ⟨b, off, cap, h1, h2, h3, h4⟩
  · exact .inl h
  · exact .inr ⟨b, off, cap, h1, Nat.lt_of_lt_of_le h2 hb.size, fun j x hj => keepB (Below.mono hb hC) (h3 j x hj) h2, h4⟩
/-- What a slice of texts holds, element by element. -/
theorem RowS.at {w : World} {v : Value} {l : List ByteArray} (h : RowS w v l) {j : Nat} (hj : j < l.length) : ∃ b off cap x, v = .slice (some ⟨b, off, none⟩) l.length cap ∧ l[j]? = some x ∧ w.cell? ⟨b, off + j, none⟩ = some (.string x) := by
  rcases h with ⟨_, _, rfl, rfl⟩ | ⟨b, off, cap, h1, h2, h3, _⟩
  · exact absurd hj (by simp)
  · exact ⟨b, off, cap, l[j], h1, List.getElem?_eq_getElem hj, h3 j _ (List.getElem?_eq_getElem hj)⟩
theorem RowS.len {w : World} {v : Value} {l : List ByteArray} (h : RowS w v l) : ∃ p cap, v = .slice p l.length cap := by
  rcases h with ⟨p, cap, rfl, rfl⟩ | ⟨b, off, cap, h1, h2, h3, _⟩
  · exact ⟨p, cap, rfl⟩
  · exact ⟨_, cap, h1⟩
end Go.Proofs.YtcibeiehdjekiaaGreatDoor

/-! WordsMath -/
namespace Go.Proofs.YtcibeiehdjekiaaGreatDoor
open Go.RowKit
set_option linter.unusedVariables false
set_option linter.unusedSimpArgs false

/-- A text of bytes. -/
def strL (l : List UInt8) : ByteArray := ⟨l.toArray⟩
theorem strL_list (l : List UInt8) : (strL l).data.toList = l := rfl
theorem strL_size (l : List UInt8) : (strL l).size = l.length := by simp [strL, ByteArray.size]
theorem strL_of (s : ByteArray) : strL s.data.toList = s := by apply ByteArray.ext; simp [strL]
theorem strL_app (a b : List UInt8) : strL (a ++ b) = strL a ++ strL b := by apply ByteArray.ext; simp [strL]
/-- A text cut at each sign. -/
def splitC (c : UInt8) : List UInt8 → List (List UInt8)
  | [] => [[]]
  | x :: r => if x = c then [] :: splitC c r else (x :: (splitC c r).headD []) :: (splitC c r).tail
theorem splitC_ne (c : UInt8) (l : List UInt8) : splitC c l ≠ [] := by
  cases l with
  | nil => simp [splitC]
  | cons x r => unfold splitC; split <;> simp
theorem splitK_one (c : UInt8) : ∀ s : List UInt8, Lib.splitK [c] 0 (s.count c) s = splitC c s
  | [] => rfl
  | x :: r => by
    have ih := splitK_one c r
    by_cases h : x = c
    · subst h
      have hc : (x :: r).count x = r.count x + 1 := by simp
      have hi : Lib.index (x :: r) [x] = 0 := by rw [Lib.index]; simp [List.isPrefixOf]
      rw [hc]
      unfold Lib.splitK splitC
      rw [hi, if_neg (by decide), if_pos rfl, ← ih]
      simp
    · have hc : (x :: r).count c = r.count c := List.count_cons_of_ne (by simpa using h)
      have hix : Lib.index (x :: r) [c] = if Lib.index r [c] == -1 then -1 else Lib.index r [c] + 1 := by rw [Lib.index]; simp [List.isPrefixOf, Ne.symm h]
      rw [hc]
      unfold splitC
      rw [if_neg h, ← ih]
      cases hk : r.count c with
      | zero => simp [Lib.splitK]
      | succ k =>
        unfold Lib.splitK
        by_cases hm : Lib.index r [c] = -1
        · rw [hix, hm]; simp
        · have hge := Lib.index_ge r [c]
          obtain ⟨j, hj⟩ : ∃ j : Nat, Lib.index r [c] = j := ⟨(Lib.index r [c]).toNat, by omega⟩
          have e1 : ((j : Int) == -1) = false := by rw [beq_eq_false_iff_ne]; omega
          have e2 : (((j : Int) + 1) == -1) = false := by rw [beq_eq_false_iff_ne]; omega
          rw [hix, hj]
          simp only [e1, e2, if_false, Bool.false_eq_true]
          have e3 : ((j : Int) + 1).toNat = j + 1 := by omega
          have e4 : ((j : Int)).toNat = j := by omega
          rw [e3, e4]
          simp [List.take_succ_cons]
theorem splitC_count (c : UInt8) : ∀ s : List UInt8, (splitC c s).length = s.count c + 1
  | [] => rfl
  | x :: r => by
    have ih := splitC_count c r
    unfold splitC
    by_cases h : x = c
    · subst h; rw [if_pos rfl]; simp [ih]
    · rw [if_neg h, List.count_cons_of_ne (by simpa using h)]
      simp [ih]
/-- The lines of a text, a byte after the other. -/
def refL (line : List UInt8) (opn : Bool) : List UInt8 → List (List UInt8)
  | [] => if opn then [line] else []
  | x :: r => if x = 10 then line :: refL [] false r else refL (line ++ [x]) true r
def linesL (s : List UInt8) : List (List UInt8) := refL [] false s
theorem refL_len (s : List UInt8) : ∀ (line : List UInt8) (o : Bool), (refL line o s).length ≤ s.length + 1 := by
  induction s with
  | nil => intro line o; cases o <;> simp [refL]
  | cons x r ih =>
    intro line o
    unfold refL
    split
    · have := ih [] false; simp; omega
    · have := ih (line ++ [x]) true; simp; omega
theorem suffix_two (x y : UInt8) (r p : List UInt8) (c : UInt8) (hp : p = [c]) : p.isSuffixOf (x :: y :: r) = p.isSuffixOf (y :: r) := by
  subst hp
  rw [Bool.eq_iff_iff, List.isSuffixOf_iff_suffix, List.isSuffixOf_iff_suffix, List.suffix_cons_iff]
  constructor
  · rintro (h | h)
    · exact absurd h (by simp)
    · exact h
  · exact .inr
theorem trim_two (x y : UInt8) (r : List UInt8) : Lib.trimSuffix (x :: y :: r) [10] = x :: Lib.trimSuffix (y :: r) [10] := by
  unfold Lib.trimSuffix Lib.hasSuffix
  rw [suffix_two x y r [10] 10 rfl]
  split
  · simp
  · rfl
theorem lines_split (s : List UInt8) (h : s ≠ []) : ∀ (line : List UInt8) (o : Bool), refL line o s = (line ++ (splitC 10 (Lib.trimSuffix s [10])).headD []) :: (splitC 10 (Lib.trimSuffix s [10])).tail := by
  induction s with
  | nil => exact absurd rfl h
  | cons x r ih =>
    intro line o
    cases r with
    | nil =>
      by_cases hx : x = 10
      · subst hx
        have : Lib.trimSuffix [10] [10] = [] := by decide
        rw [this]
        simp [refL, splitC]
      · have : Lib.trimSuffix [x] [10] = [x] := by
          unfold Lib.trimSuffix Lib.hasSuffix
          rw [if_neg]
          rw [List.isSuffixOf_iff_suffix]
          intro hs
          have := List.IsSuffix.eq_of_length hs rfl
          injection this with e; exact hx e.symm
        rw [this]
        simp [refL, splitC, hx]
    | cons y r =>
      rw [trim_two]
      have ih := ih (by simp)
      unfold refL
      by_cases hx : x = 10
      · subst hx
        rw [if_pos rfl, ih]
        conv => rhs; unfold splitC
        rw [if_pos rfl]
        have hne := splitC_ne 10 (Lib.trimSuffix (y :: r) [10])
        generalize splitC 10 (Lib.trimSuffix (y :: r) [10]) = T at hne ⊢
        cases T with
        | nil => exact absurd rfl hne
        | cons a t => simp
      · rw [if_neg hx, ih]
        conv => rhs; unfold splitC
        rw [if_neg hx]
        simp
theorem lines_eq (s : List UInt8) (h : s ≠ []) : linesL s = splitC 10 (Lib.trimSuffix s [10]) := by
  unfold linesL
  rw [lines_split s h]
  have hne := splitC_ne 10 (Lib.trimSuffix s [10])
  generalize splitC 10 (Lib.trimSuffix s [10]) = T at hne ⊢
  cases T with
  | nil => exact absurd rfl hne
  | cons a t => simp
/-- Lines as a text. -/
def textL (l : List (List UInt8)) : List UInt8 := l.flatMap (fun x => x ++ [10])
theorem refL_run (x : List UInt8) (hx : ∀ c ∈ x, c ≠ 10) (r : List UInt8) : ∀ (acc : List UInt8) (o : Bool), refL acc o (x ++ 10 :: r) = (acc ++ x) :: refL [] false r := by
  induction x with
  | nil => intro acc o; simp [refL]
  | cons a t ih =>
    intro acc o
    have ha : a ≠ 10 := hx a (by simp)
    rw [List.cons_append]
    conv => lhs; unfold refL
    rw [if_neg ha, ih (fun c hc => hx c (by simp [hc]))]
    simp
theorem lines_text (l : List (List UInt8)) (h : ∀ x ∈ l, ∀ c ∈ x, c ≠ 10) : linesL (textL l) = l := by
  unfold linesL
  induction l with
  | nil => rfl
  | cons x r ih =>
    have e : textL (x :: r) = x ++ 10 :: textL r := by simp [textL]
    rw [e, refL_run x (h x (by simp)), ih (fun y hy => h y (by simp [hy]))]
    simp
/-- A blank. -/
def isB (c : UInt8) : Bool := c == 32 || c == 9
/-- The words of a line, a byte after the other. -/
def refW (w : List UInt8) : List UInt8 → List (List UInt8)
  | [] => if w = [] then [] else [w]
  | x :: r => if x = 35 then (if w = [] then [] else [w]) else if isB x = true then (if w = [] then refW [] r else w :: refW [] r) else refW (w ++ [x]) r
def wordsL (s : List UInt8) : List (List UInt8) := refW [] s
theorem refW_cut (s : List UInt8) : ∀ w, refW w (s.takeWhile (fun c => !(c == 35))) = refW w s := by
  induction s with
  | nil => intro w; rfl
  | cons x r ih =>
    intro w
    by_cases h : x = 35
    · subst h; simp [refW]
    · have h2 : (x == 35) = false := by simpa using h
      rw [List.takeWhile_cons, h2]
      simp only [Bool.not_false, if_true]
      unfold refW
      rw [if_neg h, if_neg h]
      split
      · split
        · exact ih []
        · rw [ih []]
      · exact ih _
theorem refW_blank (s : List UInt8) (hs : ∀ c ∈ s, c ≠ 35) : refW [] (s.dropWhile isB) = refW [] s := by
  induction s with
  | nil => rfl
  | cons x r ih =>
    have hx : x ≠ 35 := hs x (by simp)
    cases hb : isB x with
    | false => rw [List.dropWhile_cons, hb]; simp
    | true =>
      rw [List.dropWhile_cons, hb]
      simp only [if_true]
      rw [ih (fun c hc => hs c (by simp [hc]))]
      conv => rhs; unfold refW
      rw [if_neg hx, hb]
      simp
theorem refW_run (s : List UInt8) (hs : ∀ c ∈ s, c ≠ 35) : ∀ w, w ++ s.takeWhile (fun c => !isB c) ≠ [] → refW w s = (w ++ s.takeWhile (fun c => !isB c)) :: refW [] (s.dropWhile (fun c => !isB c)) := by
  induction s with
  | nil => intro w h; simp at h; simp [refW, h]
  | cons x r ih =>
    intro w h
    have hx : x ≠ 35 := hs x (by simp)
    cases hb : isB x with
    | true =>
      rw [List.takeWhile_cons, hb] at h
      simp only [Bool.not_true, Bool.false_eq_true, if_false, List.append_nil] at h
      rw [List.takeWhile_cons, List.dropWhile_cons, hb]
      simp only [Bool.not_true, Bool.false_eq_true, if_false, List.append_nil]
      unfold refW
      rw [if_neg hx, if_neg hx, hb, if_pos rfl, if_neg h]
      simp
    | false =>
      rw [List.takeWhile_cons, List.dropWhile_cons, hb]
      simp only [Bool.not_false, if_true]
      conv => lhs; unfold refW
      rw [if_neg hx, hb]
      simp only [Bool.false_eq_true, if_false]
      rw [ih (fun c hc => hs c (by simp [hc])) (w ++ [x]) (by simp)]
      simp
theorem refW_word (y : List UInt8) (h : ∀ c ∈ y, c ≠ 35 ∧ isB c = false) (t : List UInt8) : ∀ acc, refW acc (y ++ t) = refW (acc ++ y) t := by
  induction y with
  | nil => intro acc; simp
  | cons a r ih =>
    intro acc
    obtain ⟨h1, h2⟩ := h a (by simp)
    rw [List.cons_append]
    conv => lhs; unfold refW
    rw [if_neg h1, h2]
    simp only [Bool.false_eq_true, if_false]
    rw [ih (fun c hc => h c (by simp [hc]))]
    simp
theorem refW_tail (r : List (List UInt8)) (h : ∀ y ∈ r, y ≠ [] ∧ ∀ c ∈ y, c ≠ 35 ∧ isB c = false) : ∀ w, w ≠ [] → refW w (Lib.joinTail [32] r ++ [32, 35, 32, 120]) = w :: r := by
  induction r with
  | nil =>
    intro w hw
    show refW w [32, 35, 32, 120] = [w]
    simp [refW, isB, hw]
  | cons y r ih =>
    intro w hw
    obtain ⟨h1, h2⟩ := h y (by simp)
    have e : Lib.joinTail [32] (y :: r) = 32 :: (y ++ Lib.joinTail [32] r) := by simp [Lib.joinTail]
    rw [e, List.cons_append, List.append_assoc]
    unfold refW
    rw [if_neg (by decide), if_pos (by decide), if_neg hw, refW_word y h2, List.nil_append, ih (fun z hz => h z (by simp [hz])) y h1]
theorem words_join (l : List (List UInt8)) (h : ∀ y ∈ l, y ≠ [] ∧ ∀ c ∈ y, c ≠ 35 ∧ isB c = false) : wordsL (9 :: (Lib.join l [32] ++ [32, 35, 32, 120])) = l := by
  unfold wordsL
  unfold refW
  rw [if_neg (by decide), if_pos (by decide), if_pos rfl]
  cases l with
  | nil => rw [Lib.join_nil]; simp [refW, isB]
  | cons x r =>
    obtain ⟨h1, h2⟩ := h x (by simp)
    rw [Lib.join_cons, List.append_assoc, refW_word x h2, List.nil_append]
    exact refW_tail r (fun y hy => h y (by simp [hy])) x h1
theorem refW_len (s : List UInt8) : ∀ w, (refW w s).length ≤ s.length + 1 := by
  induction s with
  | nil => intro w; unfold refW; split <;> simp
  | cons x r ih =>
    intro w
    have h1 := ih []
    have h2 := ih (w ++ [x])
    unfold refW
    repeat (first | split | (simp only [List.length_cons, List.length_nil]; omega))
end Go.Proofs.YtcibeiehdjekiaaGreatDoor

/-! Words -/
namespace Go.Proofs.YtcibeiehdjekiaaGreatDoor
open Go.RowKit
set_option linter.unusedVariables false
set_option linter.unusedSimpArgs false

/-- How far the first byte that is so stands. -/
def untilN (p : UInt8 → Bool) (l : List UInt8) : Nat := (l.takeWhile (fun c => !p c)).length
theorem untilN_le (p : UInt8 → Bool) (l : List UInt8) : untilN p l ≤ l.length := (List.takeWhile_prefix _).length_le
theorem drop_at {l : List UInt8} {a : Nat} {c : UInt8} (h : l[a]? = some c) : l.drop a = c :: l.drop (a + 1) := by
  obtain ⟨hl, e⟩ := List.getElem?_eq_some_iff.1 h
  rw [List.drop_eq_getElem_cons hl, e]
theorem untilN_yes {p : UInt8 → Bool} {l : List UInt8} {a : Nat} {c : UInt8} (h : l[a]? = some c) (hp : p c = true) : untilN p (l.drop a) = 0 := by
  rw [drop_at h]; unfold untilN; simp [hp]
theorem untilN_no {p : UInt8 → Bool} {l : List UInt8} {a : Nat} {c : UInt8} (h : l[a]? = some c) (hp : p c = false) : untilN p (l.drop a) = untilN p (l.drop (a + 1)) + 1 := by
  rw [drop_at h]; unfold untilN; simp [hp]
theorem untilN_end {p : UInt8 → Bool} {l : List UInt8} {a : Nat} (h : l.length ≤ a) : untilN p (l.drop a) = 0 := by
  rw [List.drop_eq_nil_of_le h]; rfl
theorem untilN_at {p : UInt8 → Bool} {l : List UInt8} {a : Nat} {c : UInt8} (h : l[a + untilN p (l.drop a)]? = some c) : p c = true := by
  rw [← List.getElem?_drop] at h
  generalize l.drop a = r at h
  induction r with
  | nil => simp at h
  | cons x t ih =>
    cases hx : p x with
    | true => unfold untilN at h; simp [hx] at h; rw [← h]; exact hx
    | false =>
      apply ih
      have e : untilN p (x :: t) = untilN p t + 1 := by unfold untilN; simp [hx]
      rw [e] at h
      simpa using h
theorem dropWhile_drop (q : UInt8 → Bool) (l : List UInt8) : l.dropWhile q = l.drop (l.takeWhile q).length := by
  induction l with
  | nil => rfl
  | cons x t ih =>
    cases hx : q x with
    | true => simp [hx, ih]
    | false => simp [hx]
theorem takeWhile_take (q : UInt8 → Bool) (l : List UInt8) : l.takeWhile q = l.take (l.takeWhile q).length := by
  induction l with
  | nil => rfl
  | cons x t ih =>
    cases hx : q x with
    | true => simp only [List.takeWhile_cons, hx, if_true, List.length_cons, List.take_succ_cons]; rw [← ih]
    | false => simp [hx]
theorem words_skip (L : List UInt8) (hL : ∀ c ∈ L, c ≠ 35) (k : Nat) : wordsL (L.drop (k + untilN (fun c => !isB c) (L.drop k))) = wordsL (L.drop k) := by
  have h := refW_blank (L.drop k) (fun c hc => hL c (List.mem_of_mem_drop hc))
  unfold wordsL
  rw [← h, dropWhile_drop, ← List.drop_drop]
  congr 2
  unfold untilN
  congr 1
  congr 1
  funext c
  simp
theorem words_take (L : List UInt8) (hL : ∀ c ∈ L, c ≠ 35) (k : Nat) (c : UInt8) (hc : L[k]? = some c) (hb : isB c = false) : wordsL (L.drop k) = (L.drop k).take (untilN isB (L.drop k)) :: wordsL (L.drop (k + untilN isB (L.drop k))) := by
  have hne : ([] : List UInt8) ++ (L.drop k).takeWhile (fun c => !isB c) ≠ [] := by rw [drop_at hc]; simp [hb]
  have h := refW_run (L.drop k) (fun c hc => hL c (List.mem_of_mem_drop hc)) [] hne
  unfold wordsL
  rw [h, dropWhile_drop, List.nil_append, ← List.drop_drop]
  congr 1
  exact takeWhile_take _ _
theorem mem_tw (q : UInt8 → Bool) (l : List UInt8) : ∀ c ∈ l.takeWhile q, q c = true := by
  induction l with
  | nil => intro c h; simp at h
  | cons x t ih =>
    intro c h
    cases hx : q x with
    | true =>
      rw [List.takeWhile_cons, hx] at h
      simp only [if_true, List.mem_cons] at h
      rcases h with rfl | h
      · exact hx
      · exact ih c h
    | false => rw [List.takeWhile_cons, hx] at h; simp at h
theorem ownS_mkL {B : Nat} {w : World} {v : Value} {l : List (List UInt8)} {b : ByteArray} (h : w.ownsRow B 9 1 v (l.length + 1) (l.map (Value.string ∘ strL) ++ [Value.string b])) : OwnS B w v (l.map strL ++ [b]) := by
  unfold OwnS
  rw [List.length_append, List.map_append, List.length_map, List.map_map]
  exact h
end Go.Proofs.YtcibeiehdjekiaaGreatDoor

/-! WordsRest -/
namespace Go.Proofs.YtcibeiehdjekiaaGreatDoor
open Go.RowKit Go.Shelf
set_option linter.unusedVariables false
set_option linter.unusedSimpArgs false

theorem lies_two_ : Lies 44 2 0 := ⟨by decide, by kernel_rfl⟩
theorem bld_fresh (b : Nat) (w : World) (B : Nat) : BldIn #[.pointer none, .slice none 0 0] B b 0 w (.slice none 0 0) [] := ⟨.inl rfl, rfl, World.ownsRowF_nil _ _ _ _, by simp [Value.ownBlock]⟩
theorem RowS.new (w : World) (l : List ByteArray) (cap : Nat) (hl : l.length ≤ cap) (hne : l ≠ []) : RowS (w.alloc (.cells (l.map Value.string).toArray 9)) (.slice (some ⟨w.heap.size, 0, none⟩) l.length cap) l := by
  refine .inr ⟨_, 0, cap, rfl, by simp, fun j x hj => ?_, hl⟩
  have h := Blk.new w (l.map Value.string).toArray 9
  rw [Nat.zero_add]
  exact h.cell (by simp [hj])
/-- Which one of some words a word is; whether it is one. -/
def findI (l : List ByteArray) (x : ByteArray) : Int := max (Lib.idxOfS l x) 0
def findB (l : List ByteArray) (x : ByteArray) : Bool := decide (0 ≤ Lib.idxOfS l x)
/-- What stands ahead of a sign, and behind it. -/
def cutR (s : ByteArray) (c : UInt8) : ByteArray × ByteArray × Bool :=
  if Lib.indexByte s.data.toList c < 0 then (⟨#[]⟩, ⟨#[]⟩, false) else (s.extract 0 (Lib.indexByte s.data.toList c).toNat, s.extract ((Lib.indexByte s.data.toList c).toNat + 1) s.size, true)
theorem textL_take (l : List (List UInt8)) (i : Nat) (x : List UInt8) (h : l[i]? = some x) : textL (l.take (i + 1)) = textL (l.take i) ++ x ++ [10] := by
  obtain ⟨hi, e⟩ := List.getElem?_eq_some_iff.1 h
  unfold textL
  rw [List.take_succ_eq_append_getElem hi, List.flatMap_append, e]
  simp
theorem textL_le (l : List (List UInt8)) (i : Nat) : (textL (l.take i)).length ≤ (textL l).length := by
  have e : textL l = textL (l.take i) ++ textL (l.drop i) := by
    unfold textL
    rw [← List.flatMap_append, List.take_append_drop]
  rw [e, List.length_append]; omega
end Go.Proofs.YtcibeiehdjekiaaGreatDoor
