/-
  Rows of named numbers (reeve's layer 7): the plain law.
-/
import Derived.Test.YtanihdpgblkeaaaDoorWordsMath
import Derived.Test.YtanihdpgblkeaaaDoorDecMath
namespace Go.Proofs.YtanihdpgblkeaaaDoor
open Go.RowKit
set_option linter.unusedVariables false
set_option linter.unusedSimpArgs false

/-- The parts behind a row's word: one for each name that has a number. -/
def rowP : List (List UInt8) → List Int → List (List UInt8)
  | a :: r, n :: ns => (a ++ [61] ++ Lib.itoa n) :: rowP r ns
  | _, _ => []
theorem rowP_length (a : List (List UInt8)) : ∀ b : List Int, (rowP a b).length = min a.length b.length := by
  induction a with
  | nil => intro b; simp [rowP]
  | cons x r ih =>
    intro b
    cases b with
    | nil => simp [rowP]
    | cons n ns => simp only [rowP, List.length_cons, ih]; omega
theorem rowP_at (a : List (List UInt8)) : ∀ (b : List Int) (i : Nat) (x : List UInt8) (n : Int), a[i]? = some x → b[i]? = some n → (rowP a b)[i]? = some (x ++ [61] ++ Lib.itoa n) := by
  induction a with
  | nil => intro b i x n h; simp at h
  | cons y r ih =>
    intro b i x n h1 h2
    cases b with
    | nil => simp at h2
    | cons m ns =>
      cases i with
      | zero => simp at h1 h2; subst h1; subst h2; simp [rowP]
      | succ i => simp only [rowP, List.getElem?_cons_succ] at h1 h2 ⊢; exact ih ns i x n h1 h2
theorem rowP_take (a : List (List UInt8)) : ∀ b : List Int, rowP a (b.take a.length) = rowP a b := by
  induction a with
  | nil => intro b; simp [rowP]
  | cons y r ih =>
    intro b
    cases b with
    | nil => simp
    | cons m ns => simp only [List.length_cons, List.take_succ_cons, rowP, ih]
/-- The number of a part with a name. -/
def partV (part name : List UInt8) : Option Int := if (name ++ [61]).isPrefixOf part then decV (part.drop (name.length + 1)) else none
/-- All, if each is there. -/
def allO : List (Option Int) → Option (List Int)
  | [] => some []
  | some n :: r => match allO r with
    | some ns => some (n :: ns)
    | none => none
  | none :: r => none
theorem allO_snoc (l : List (Option Int)) (n : Int) (ns : List Int) (h : allO l = some ns) : allO (l ++ [some n]) = some (ns ++ [n]) := by
  induction l generalizing ns with
  | nil => simp [allO] at h; subst h; rfl
  | cons x r ih =>
    cases x with
    | none => simp [allO] at h
    | some m =>
      simp only [allO] at h
      cases hr : allO r with
      | none => rw [hr] at h; cases h
      | some ms =>
        rw [hr] at h
        injection h with h
        subst h
        simp only [List.cons_append, allO, ih ms hr]
theorem allO_bad (l : List (Option Int)) (i : Nat) (h : l[i]? = some none) : allO l = none := by
  induction l generalizing i with
  | nil => simp at h
  | cons x r ih =>
    cases i with
    | zero => simp at h; subst h; rfl
    | succ i =>
      rw [List.getElem?_cons_succ] at h
      cases x with
      | none => rfl
      | some m => simp only [allO, ih i h]
theorem allO_length (l : List (Option Int)) (ns : List Int) (h : allO l = some ns) : ns.length = l.length := by
  induction l generalizing ns with
  | nil => simp [allO] at h; subst h; rfl
  | cons x r ih =>
    cases x with
    | none => simp [allO] at h
    | some m =>
      simp only [allO] at h
      cases hr : allO r with
      | none => rw [hr] at h; cases h
      | some ms =>
        rw [hr] at h
        injection h with h
        subst h
        simp [ih ms hr]
/-- The numbers of a row's words, and the error. -/
def rowR (ws : List (List UInt8)) (word : List UInt8) (names : List (List UInt8)) : List Int × Int :=
  if ws.length = names.length + 1 ∧ ws[0]? = some word then match allO (List.zipWith partV ws.tail names) with
    | some ns => (ns, 0)
    | none => ([], 2)
  else ([], 2)
/-- The first word of a line. -/
def wordR (ws : List (List UInt8)) : List UInt8 := ws.headD []
def rowL (word : List UInt8) (names : List (List UInt8)) (ns : List Int) : List UInt8 := Lib.join (word :: rowP names ns) [32]

/-! ### Rows come back -/
theorem refW_tail0 (r : List (List UInt8)) (h : ∀ y ∈ r, y ≠ [] ∧ ∀ c ∈ y, c ≠ 35 ∧ isB c = false) : ∀ w, w ≠ [] → refW w (Lib.joinTail [32] r) = w :: r := by
  induction r with
  | nil =>
    intro w hw
    show refW w [] = [w]
    simp [refW, hw]
  | cons y r ih =>
    intro w hw
    obtain ⟨h1, h2⟩ := h y (by simp)
    have e : Lib.joinTail [32] (y :: r) = 32 :: (y ++ Lib.joinTail [32] r) := by simp [Lib.joinTail]
    rw [e]
    unfold refW
    rw [if_neg (by decide), if_pos (by decide), if_neg hw, refW_word y h2, List.nil_append, ih (fun z hz => h z (by simp [hz])) y h1]
theorem words_join0 (x : List UInt8) (r : List (List UInt8)) (h : ∀ y ∈ x :: r, y ≠ [] ∧ ∀ c ∈ y, c ≠ 35 ∧ isB c = false) : wordsL (Lib.join (x :: r) [32]) = x :: r := by
  unfold wordsL
  obtain ⟨h1, h2⟩ := h x (by simp)
  rw [Lib.join_cons, refW_word x h2, List.nil_append]
  exact refW_tail0 r (fun y hy => h y (by simp [hy])) x h1
/-- Which bytes a word may have. -/
def plainB (c : UInt8) : Prop := c ≠ 32 ∧ c ≠ 9 ∧ c ≠ 35
theorem plainB_ok {c : UInt8} (h : plainB c) : c ≠ 35 ∧ isB c = false := by
  obtain ⟨h1, h2, h3⟩ := h
  refine ⟨h3, ?_⟩
  simp [isB, h1, h2]
theorem itoa_plain (n : Int) : ∀ c ∈ Lib.itoa n, plainB c := by
  intro c hc
  obtain ⟨i, hi, e⟩ := List.getElem_of_mem hc
  have h := itoa_at n i c (by rw [List.getElem?_eq_getElem hi, e])
  rcases h with ⟨_, rfl⟩ | h
  · exact ⟨by decide, by decide, by decide⟩
  · rw [isD_iff] at h
    refine ⟨?_, ?_, ?_⟩ <;> (rintro rfl; revert h; decide)
theorem rowP_plain (names : List (List UInt8)) (hn : ∀ a ∈ names, ∀ c ∈ a, plainB c) : ∀ ns : List Int, ∀ y ∈ rowP names ns, y ≠ [] ∧ ∀ c ∈ y, c ≠ 35 ∧ isB c = false := by
  induction names with
  | nil => intro ns y hy; simp [rowP] at hy
  | cons a r ih =>
    intro ns y hy
    cases ns with
    | nil => simp [rowP] at hy
    | cons n ns =>
      simp only [rowP, List.mem_cons] at hy
      rcases hy with rfl | hy
      · refine ⟨by simp, fun c hc => ?_⟩
        rw [List.mem_append, List.mem_append] at hc
        rcases hc with (hc | hc) | hc
        · exact plainB_ok (hn a (by simp) c hc)
        · simp at hc; subst hc; exact ⟨by decide, by decide⟩
        · exact plainB_ok (itoa_plain n c hc)
      · exact ih (fun a ha => hn a (by simp [ha])) ns y hy
theorem row_words (word : List UInt8) (names : List (List UInt8)) (ns : List Int) (hw : word ≠ []) (hw2 : ∀ c ∈ word, plainB c) (hn : ∀ a ∈ names, ∀ c ∈ a, plainB c) : wordsL (rowL word names ns) = word :: rowP names ns := by
  refine words_join0 word _ (fun y hy => ?_)
  rw [List.mem_cons] at hy
  rcases hy with rfl | hy
  · exact ⟨hw, fun c hc => plainB_ok (hw2 c hc)⟩
  · exact rowP_plain names hn ns y hy
theorem partV_row (a : List UInt8) (n : Int) (h : inI n) : partV (a ++ [61] ++ Lib.itoa n) a = some n := by
  unfold partV
  rw [if_pos (by rw [List.isPrefixOf_iff_prefix]; exact List.prefix_append _ _)]
  rw [show a.length + 1 = (a ++ [61]).length by simp, List.drop_left']
  · exact decV_itoa n h
  · rfl
theorem parts_row (names : List (List UInt8)) : ∀ ns : List Int, names.length ≤ ns.length → (∀ n ∈ ns, inI n) → allO (List.zipWith partV (rowP names ns) names) = some (ns.take names.length) := by
  induction names with
  | nil => intro ns _ _; simp [rowP, allO]
  | cons a r ih =>
    intro ns hl hi
    cases ns with
    | nil => simp at hl
    | cons n ns =>
      simp only [List.length_cons] at hl
      simp only [rowP, List.zipWith_cons_cons, partV_row a n (hi n (by simp)), allO, ih ns (by omega) (fun m hm => hi m (by simp [hm])), List.length_cons, List.take_succ_cons]
/-- A row's words tell the numbers again. -/
theorem row_back (word : List UInt8) (names : List (List UInt8)) (ns : List Int) (hl : names.length ≤ ns.length) (hi : ∀ n ∈ ns, inI n) : rowR (word :: rowP names ns) word names = (ns.take names.length, 0) := by
  unfold rowR
  rw [if_pos ⟨by rw [List.length_cons, rowP_length]; omega, rfl⟩, List.tail_cons, parts_row names ns hl hi]
theorem rowL_take (word : List UInt8) (names : List (List UInt8)) (ns : List Int) : rowL word names (ns.take names.length) = rowL word names ns := by
  unfold rowL; rw [rowP_take]
theorem rowP_len (names : List (List UInt8)) (hn : ∀ a ∈ names, a.length ≤ 60) : ∀ ns : List Int, (∀ n ∈ ns, inI n) → ∀ y ∈ rowP names ns, y.length ≤ 100 := by
  induction names with
  | nil => intro ns _ y hy; simp [rowP] at hy
  | cons a r ih =>
    intro ns hi y hy
    cases ns with
    | nil => simp [rowP] at hy
    | cons n ns =>
      simp only [rowP, List.mem_cons] at hy
      rcases hy with rfl | hy
      · have h1 := hn a (by simp)
        have h2 := itoa_len n (hi n (by simp))
        simp only [List.length_append, List.length_cons, List.length_nil]; omega
      · exact ih (fun a ha => hn a (by simp [ha])) ns (fun m hm => hi m (by simp [hm])) y hy
end Go.Proofs.YtanihdpgblkeaaaDoor
