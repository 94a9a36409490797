/-
  The numbers of a text (reeve's layer 5): the program's walk.
-/
import Derived.Test.YtanihdpgblkeaaaDoorDecParse
import Derived.Test.YtanihdpgblkeaaaDoorIntRow
namespace Go.Proofs.YtanihdpgblkeaaaDoor
open Go.RowKit
set_option linter.unusedVariables false
set_option linter.unusedSimpArgs false

theorem splitC_le (c : UInt8) (l : List UInt8) : ∀ x ∈ splitC c l, x.length ≤ l.length := by
  induction l with
  | nil => intro x hx; simp [splitC] at hx; subst hx; simp
  | cons a r ih =>
    intro x hx
    unfold splitC at hx
    have hne := splitC_ne c r
    split at hx
    · rw [List.mem_cons] at hx
      rcases hx with rfl | hx
      · simp
      · have := ih x hx; simp only [List.length_cons]; omega
    · cases hs : splitC c r with
      | nil => exact absurd hs hne
      | cons h t =>
        rw [hs] at hx ih
        simp only [List.headD_cons, List.tail_cons, List.mem_cons] at hx
        rcases hx with rfl | hx
        · have := ih h (by simp); simp only [List.length_cons]; omega
        · have := ih x (by simp [hx]); simp only [List.length_cons]; omega
theorem rowS_pick_ {w : World} {p : Option Addr} {cap n : Nat} {l : List (List UInt8)} (h : RowS w (.slice p n cap) (l.map strL)) (hn : l.length = n) : ∀ j, j < n → ∃ b off cp x, (Value.slice p n cap) = .slice (some ⟨b, off, none⟩) n cp ∧ l[j]? = some x ∧ w.cell? ⟨b, off + j, none⟩ = some (.string (strL x)) ∧ b < w.heap.size := by
  intro j hj
  rcases h with ⟨_, _, _, h0⟩ | ⟨b, off, cp, e1, hb, hc, _⟩
  · have : l = [] := by simpa using h0
    rw [this] at hn; simp at hn; omega
  · rw [List.length_map, hn] at e1
    have hj' : j < l.length := by omega
    exact ⟨b, off, cp, l[j], e1, List.getElem?_eq_getElem hj', hc j _ (by rw [List.getElem?_map, List.getElem?_eq_getElem hj']; rfl), hb⟩
theorem takeL_at_ {l : List (List UInt8)} {i : Nat} {x : List UInt8} (h : l[i]? = some x) : l.take (i + 1) = l.take i ++ [x] := by
  obtain ⟨hi, e⟩ := List.getElem?_eq_some_iff.1 h
  rw [List.take_succ_eq_append_getElem hi, e]
/-- The numbers of texts, if each is one's. -/
def allV : List (List UInt8) → Option (List Int)
  | [] => some []
  | x :: r => match decV x, allV r with
    | some n, some ns => some (n :: ns)
    | _, _ => none
theorem allV_length {l : List (List UInt8)} {ns : List Int} (h : allV l = some ns) : ns.length = l.length := by
  induction l generalizing ns with
  | nil => simp [allV] at h; subst h; rfl
  | cons x r ih =>
    unfold allV at h
    split at h
    · rename_i n ns' h1 h2
      injection h with h; subst h
      simp [ih h2]
    · cases h
theorem allV_app (l r : List (List UInt8)) : allV (l ++ r) = match allV l, allV r with
    | some a, some b => some (a ++ b)
    | _, _ => none := by
  induction l with
  | nil => simp [allV]; cases allV r <;> rfl
  | cons x l ih =>
    have e1 : allV (x :: l ++ r) = (match decV x, allV (l ++ r) with | some n, some ns => some (n :: ns) | _, _ => none) := rfl
    have e2 : allV (x :: l) = (match decV x, allV l with | some n, some ns => some (n :: ns) | _, _ => none) := rfl
    rw [e1, e2, ih]
    cases decV x <;> cases allV l <;> cases allV r <;> rfl
theorem allV_snoc (l : List (List UInt8)) (x : List UInt8) (ns : List Int) (n : Int) (h : allV l = some ns) (hx : decV x = some n) : allV (l ++ [x]) = some (ns ++ [n]) := by
  rw [allV_app, h]
  have : allV [x] = some [n] := by simp [allV, hx]
  rw [this]
theorem allV_bad (l : List (List UInt8)) (i : Nat) (x : List UInt8) (h : l[i]? = some x) (hx : decV x = none) : allV l = none := by
  induction l generalizing i with
  | nil => simp at h
  | cons y r ih =>
    unfold allV
    cases i with
    | zero => simp at h; subst h; rw [hx]
    | succ i =>
      rw [List.getElem?_cons_succ] at h
      rw [ih i h]
      cases decV y <;> rfl
/-- The numbers of a text, if it has so many; and the error. -/
def listR (l : List UInt8) (many : Int) : List Int × Int := if ((splitC 44 l).length : Int) ≠ many then ([], 2) else match allV (splitC 44 l) with
  | some ns => (ns, 0)
  | none => ([], 2)
theorem decR_of {l : List UInt8} : (∃ n, decV l = some n ∧ decR l = (n, 0)) ∨ (decV l = none ∧ decR l = (0, 2)) := by
  unfold decR
  cases h : decV l with
  | none => exact .inr ⟨rfl, rfl⟩
  | some n => exact .inl ⟨n, rfl, rfl⟩
end Go.Proofs.YtanihdpgblkeaaaDoor
