/-
  Texts of many lines: what a text of any events (or messages) is, and what is read of any text: the plain law.
-/
import Derived.Test.YtanihdpgblkeaaaGreatDoorRowAll
namespace Go.Proofs.YtanihdpgblkeaaaGreatDoor
open Go.RowKit
set_option linter.unusedVariables false
set_option linter.unusedSimpArgs false

/-- The text of some lists, or the first that has none. -/
def textG (f : List Int → List UInt8 × Int) (acc : List (List UInt8)) : List (List Int) → List UInt8 × Int
  | [] => (textL acc, 0)
  | l :: r => if (f l).2 = 0 then textG f (acc ++ [(f l).1]) r else ([], (f l).2)
/-- What some lines tell, or the first that is wrong. -/
def allG (f : List (List UInt8) → List Int × Int) (acc : List (List Int)) (i : Nat) : List (List UInt8) → List (List Int) × Int × Int
  | [] => (acc, 0, 0)
  | x :: r => if wordsL x = [] then allG f acc (i + 1) r else if (f (wordsL x)).2 = 0 then allG f (acc ++ [(f (wordsL x)).1]) (i + 1) r else ([], (i : Int), (f (wordsL x)).2)
theorem textG_good (f : List Int → List UInt8 × Int) : ∀ (L : List (List Int)) (acc : List (List UInt8)), (∀ l ∈ L, (f l).2 = 0) → textG f acc L = (textL (acc ++ L.map (fun l => (f l).1)), 0) := by
  intro L
  induction L with
  | nil => intro acc _; simp [textG]
  | cons l r ih =>
    intro acc h
    unfold textG
    rw [if_pos (h l (by simp)), ih _ (fun x hx => h x (by simp [hx]))]
    simp
theorem allG_good (f : List (List UInt8) → List Int × Int) (g : List Int → List UInt8) : ∀ (L : List (List Int)) (t : List (List UInt8)) (acc : List (List Int)) (i : Nat), (∀ l ∈ L, wordsL (g l) ≠ [] ∧ f (wordsL (g l)) = (l, 0)) → (∀ x ∈ t, wordsL x = []) → allG f acc i (L.map g ++ t) = (acc ++ L, 0, 0) := by
  intro L
  induction L with
  | nil =>
    intro t
    induction t with
    | nil => intro acc i _ _; simp [allG]
    | cons x t ih =>
      intro acc i h1 h2
      have := ih acc (i + 1) h1 (fun y hy => h2 y (by simp [hy]))
      simp only [List.map_nil, List.nil_append] at this ⊢
      unfold allG
      rw [if_pos (h2 x (by simp)), this]
  | cons l r ih =>
    intro t acc i h1 h2
    have hl := h1 l (by simp)
    rw [List.map_cons, List.cons_append]
    unfold allG
    rw [if_neg hl.1, hl.2, if_pos rfl, ih t _ _ (fun x hx => h1 x (by simp [hx])) h2]
    simp
theorem textL_wrap (ls : List (List UInt8)) : [35, 10] ++ textL ls ++ [10] = textL (([35] :: ls) ++ [[]]) := by
  unfold textL
  simp
/-- What was written is read again, behind a line of nothing and ahead of one. -/
theorem back_all (f : List (List UInt8) → List Int × Int) (g : List Int → List UInt8) (L : List (List Int)) (h : ∀ l ∈ L, wordsL (g l) ≠ [] ∧ f (wordsL (g l)) = (l, 0)) (hn : ∀ l ∈ L, ∀ c ∈ g l, c ≠ 10) : allG f [] 0 (linesL ([35, 10] ++ textL (L.map g) ++ [10])) = (L, 0, 0) := by
  rw [textL_wrap, lines_text]
  · rw [List.cons_append]
    unfold allG
    rw [if_pos (by rfl)]
    have := allG_good f g L [[]] [] 1 h (by intro x hx; simp at hx; subst hx; rfl)
    rw [this]; rfl
  · intro x hx c hc
    simp only [List.cons_append, List.mem_cons, List.mem_append, List.mem_map, List.not_mem_nil, or_false] at hx
    rcases hx with rfl | ⟨l, hl, rfl⟩ | rfl
    · simp at hc; subst hc; decide
    · exact hn l hl c hc
    · cases hc
theorem textL_len (ls : List (List UInt8)) (k : Nat) (h : ∀ x ∈ ls, x.length ≤ k) : (textL ls).length ≤ ls.length * (k + 1) := by
  induction ls with
  | nil => simp [textL]
  | cons x r ih =>
    have e : textL (x :: r) = (x ++ [10]) ++ textL r := by simp [textL]
    rw [e, List.length_append, List.length_append]
    show _ ≤ (r.length + 1) * (k + 1)
    rw [Nat.add_mul, Nat.one_mul]
    have h1 := h x (by simp)
    have h2 := ih (fun y hy => h y (by simp [hy]))
    simp; omega
theorem joinTail_lenK (ls : List (List UInt8)) (k : Nat) (h : ∀ x ∈ ls, x.length ≤ k) : (Lib.joinTail [32] ls).length ≤ ls.length * (k + 1) := by
  induction ls with
  | nil => simp [Lib.joinTail]
  | cons x r ih =>
    have e : Lib.joinTail [32] (x :: r) = ([32] ++ x) ++ Lib.joinTail [32] r := by simp [Lib.joinTail]
    rw [e, List.length_append, List.length_append]
    show _ ≤ (r.length + 1) * (k + 1)
    rw [Nat.add_mul, Nat.one_mul]
    have h1 := h x (by simp)
    have h2 := ih (fun y hy => h y (by simp [hy]))
    simp; omega
theorem join_cons_ (x : List UInt8) (r : List (List UInt8)) : Lib.join (x :: r) [32] = x ++ Lib.joinTail [32] r := by
  unfold Lib.join Lib.joinTail
  induction r generalizing x with
  | nil => simp
  | cons y r ih =>
    rw [List.intercalate_cons_cons, ih y]; simp
/-- A row's line is short. -/
theorem rowL_len (word : List UInt8) (names : List (List UInt8)) (ns : List Int) (h1 : word.length ≤ 100) (h2 : ∀ a ∈ names, a.length ≤ 60) (h3 : ∀ n ∈ ns, inI n) : (rowL word names ns).length ≤ 100 + 101 * names.length := by
  unfold rowL
  rw [join_cons_, List.length_append]
  have h := joinTail_lenK (rowP names ns) 100 (rowP_len names h2 ns h3)
  have h4 := rowP_length names ns
  have : (rowP names ns).length ≤ names.length := by omega
  have : (rowP names ns).length * 101 ≤ names.length * 101 := Nat.mul_le_mul_right _ this
  omega
theorem itoa_no10 (n : Int) : ∀ c ∈ Lib.itoa n, c ≠ 10 := by
  intro c hc e
  subst e
  obtain ⟨i, hi, e⟩ := List.mem_iff_getElem.1 hc
  rcases itoa_at n i 10 (by rw [List.getElem?_eq_getElem hi, e]) with ⟨_, h⟩ | h
  · revert h; decide
  · revert h; decide
/-- A row's line is one line. -/
theorem rowL_no10 (word : List UInt8) (names : List (List UInt8)) (h1 : ∀ c ∈ word, c ≠ 10) (h2 : ∀ a ∈ names, ∀ c ∈ a, c ≠ 10) : ∀ ns : List Int, ∀ c ∈ rowL word names ns, c ≠ 10 := by
  have hP : ∀ (names : List (List UInt8)), (∀ a ∈ names, ∀ c ∈ a, c ≠ 10) → ∀ ns : List Int, ∀ y ∈ rowP names ns, ∀ c ∈ y, c ≠ 10 := by
    intro names
    induction names with
    | nil => intro _ ns y hy; simp [rowP] at hy
    | cons a r ih =>
      intro h ns y hy c hc
      cases ns with
      | nil => simp [rowP] at hy
      | cons n ns =>
        simp only [rowP, List.mem_cons] at hy
        rcases hy with rfl | hy
        · simp only [List.mem_append, List.mem_singleton] at hc
          rcases hc with (hc | rfl) | hc
          · exact h a (by simp) c hc
          · decide
          · exact itoa_no10 n c hc
        · exact ih (fun b hb => h b (by simp [hb])) ns y hy c hc
  intro ns c hc
  unfold rowL at hc
  rw [join_cons_, List.mem_append] at hc
  rcases hc with hc | hc
  · exact h1 c hc
  · unfold Lib.joinTail at hc
    simp only [List.mem_flatten, List.mem_map] at hc
    obtain ⟨z, ⟨y, hy, rfl⟩, hc⟩ := hc
    simp only [List.mem_append, List.mem_singleton] at hc
    rcases hc with rfl | hc
    · decide
    · exact hP names h2 ns y hy c hc
end Go.Proofs.YtanihdpgblkeaaaGreatDoor
