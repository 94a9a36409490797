/-
  Structs of whole numbers as lists: their cells; what an event's kind names; what is pure, what may be (reeve's layer 18).
-/
import Derived.Test.YtanihdpgblkeaaaDoorMem
import Derived.Test.YtanihdpgblkeaaaDoorFlat
import Derived.Laws.StructEq
namespace Go.Proofs.YtanihdpgblkeaaaDoor
open Go.RowKit
set_option linter.unusedVariables false
set_option linter.unusedSimpArgs false

/-- The cells of so many numbers. -/
def cellsI (l : List Int) : Array Value := (l.map (Value.int .i64)).toArray
/-- Number i. -/
def fld (l : List Int) (i : Nat) : Int := l.getD i 0
theorem cellsI_size (l : List Int) : (cellsI l).size = l.length := by simp [cellsI]
theorem cellsI_at {l : List Int} {i : Nat} (h : i < l.length) : (cellsI l)[i]? = some (.int .i64 (fld l i)) := by
  simp [cellsI, fld, h]
theorem cellsI_set (l : List Int) (i : Nat) (n : Int) : (cellsI l).setIfInBounds i (.int .i64 n) = cellsI (l.set i n) := by
  simp only [cellsI]
  apply Array.ext'
  rw [Array.toList_setIfInBounds]
  simp [List.map_set]
theorem cellsI_one (l : List Int) : (cellsI l).all (·.oneCell') = true := by
  simp [cellsI, Value.oneCell']
theorem fld_set_same {l : List Int} {i : Nat} {n : Int} (h : i < l.length) : fld (l.set i n) i = n := by
  simp [fld, List.getD_eq_getElem?_getD, h]
theorem fld_set_other {l : List Int} {i j : Nat} {n : Int} (h : i ≠ j) : fld (l.set i n) j = fld l j := by
  simp [fld, List.getD_eq_getElem?_getD, List.getElem?_set_ne h]
/-- Two lists of one length are the same where each number is. -/
theorem fld_ext {a b : List Int} (h : a.length = b.length) (hf : ∀ i, i < a.length → fld a i = fld b i) : a = b := by
  apply List.ext_getElem h
  intro i h1 h2
  have := hf i h1
  simpa [fld, h1, h2] using this
/-- All numbers are of their kind. -/
def wfI (l : List Int) : Prop := ∀ n ∈ l, (Lit.int .i64 n).wf = true
theorem wfI_fld {l : List Int} (h : wfI l) (i : Nat) : -9223372036854775808 ≤ fld l i ∧ fld l i ≤ 9223372036854775807 := by
  by_cases hi : i < l.length
  · have : fld l i = l[i] := by simp [fld, hi]
    rw [this]
    exact bounds_i64 (h _ (List.getElem_mem hi))
  · have : fld l i = 0 := by simp [fld, Nat.le_of_not_lt hi]
    rw [this]; decide

/-- A slice that holds values, in a block from B on. -/
def RowV (B : Nat) (w : World) (v : Value) (l : List Value) : Prop :=
  (∃ p cap, v = .slice p 0 cap ∧ l = []) ∨ ∃ b off cap, v = .slice (some ⟨b, off, none⟩) l.length cap ∧ B ≤ b ∧ b < w.heap.size ∧ ∀ j x, l[j]? = some x → w.cell? ⟨b, off + j, none⟩ = some x
theorem RowV.below {B C : Nat} {w w' : World} {v : Value} {l : List Value} (h : RowV B w v l) (hb : Below C w w') (hC : w.heap.size ≤ C) : RowV B w' v l := by
  rcases h with h | ⟨b, off, cap, h1, h0, h2, h3⟩
  · exact .inl h
  · exact .inr ⟨b, off, cap, h1, h0, Nat.lt_of_lt_of_le h2 hb.size, fun j x hj => keepB (Below.mono hb hC) (h3 j x hj) h2⟩
theorem RowV.chg {B : Nat} {S : Nat → Prop} {w w' : World} {v : Value} {l : List Value} (h : RowV B w v l) (hc : Chg S w w') (hS : ∀ b, B ≤ b → b < w.heap.size → ¬ S b) : RowV B w' v l := by
  rcases h with h | ⟨b, off, cap, h1, h0, h2, h3⟩
  · exact .inl h
  · exact .inr ⟨b, off, cap, h1, h0, Nat.lt_of_lt_of_le h2 hc.size, fun j x hj => (hc.cell (p := ⟨b, off + j, none⟩) h2 (hS b h0 h2)).trans (h3 j x hj)⟩
theorem RowV.mono {B C : Nat} {w : World} {v : Value} {l : List Value} (h : RowV B w v l) (hC : C ≤ B) : RowV C w v l := by
  rcases h with h | ⟨b, off, cap, h1, h0, h2, h3⟩
  · exact .inl h
  · exact .inr ⟨b, off, cap, h1, Nat.le_trans hC h0, h2, h3⟩
theorem RowV.at {B : Nat} {w : World} {v : Value} {l : List Value} (h : RowV B w v l) {j : Nat} (hj : j < l.length) : ∃ b off cap, v = .slice (some ⟨b, off, none⟩) l.length cap ∧ B ≤ b ∧ b < w.heap.size ∧ w.cell? ⟨b, off + j, none⟩ = some l[j] := by
  rcases h with ⟨_, _, rfl, rfl⟩ | ⟨b, off, cap, h1, h0, h2, h3⟩
  · exact absurd hj (by simp)
  · exact ⟨b, off, cap, h1, h0, h2, h3 j _ (List.getElem?_eq_getElem hj)⟩
theorem RowV.len {B : Nat} {w : World} {v : Value} {l : List Value} (h : RowV B w v l) : ∃ p cap, v = .slice p l.length cap := by
  rcases h with ⟨p, cap, rfl, rfl⟩ | ⟨b, off, cap, h1, h0, h2, h3⟩
  · exact ⟨p, cap, rfl⟩
  · exact ⟨_, cap, h1⟩
/-- Places in a block. -/
def ptrs (g : Nat) (os : List Nat) : List Value := os.map fun o => .pointer (some ⟨g, o, none⟩)
theorem ptrs_length (g : Nat) (os : List Nat) : (ptrs g os).length = os.length := by simp [ptrs]
theorem ptrs_at (g : Nat) (os : List Nat) (j : Nat) (h : j < os.length) : (ptrs g os)[j]'(by rw [ptrs_length]; exact h) = .pointer (some ⟨g, os[j], none⟩) := by simp [ptrs]

/-- What an event's kind names: the places of its numbers, in order. -/
def offs (k : Int) : List Nat :=
  if k = 1 ∨ k = 2 then [1, 3, 5, 6, 7] else if k = 3 then [1, 3] else if k = 4 then [2, 4, 5, 6, 7] else if k = 5 then [2] else if k = 6 ∨ k = 7 then [2, 1, 3] else []
theorem kind_cases (k : Int) : k = 1 ∨ k = 2 ∨ k = 3 ∨ k = 4 ∨ k = 5 ∨ k = 6 ∨ k = 7 ∨ (k ≠ 1 ∧ k ≠ 2 ∧ k ≠ 3 ∧ k ≠ 4 ∧ k ≠ 5 ∧ k ≠ 6 ∧ k ≠ 7) := by omega
theorem offs_none {k : Int} (h : k ≠ 1 ∧ k ≠ 2 ∧ k ≠ 3 ∧ k ≠ 4 ∧ k ≠ 5 ∧ k ≠ 6 ∧ k ≠ 7) : offs k = [] := by
  unfold offs
  rw [if_neg (by omega), if_neg (by omega), if_neg (by omega), if_neg (by omega), if_neg (by omega)]
theorem offs_lt (k : Int) : ∀ o ∈ offs k, 1 ≤ o ∧ o < 8 := by
  rcases kind_cases k with rfl | rfl | rfl | rfl | rfl | rfl | rfl | h
  all_goals first | decide | (rw [offs_none h]; simp)
theorem offs_length (k : Int) : (offs k).length ≤ 5 := by
  rcases kind_cases k with rfl | rfl | rfl | rfl | rfl | rfl | rfl | h
  all_goals first | decide | (rw [offs_none h]; simp)
theorem offs_nodup (k : Int) : (offs k).Nodup := by
  rcases kind_cases k with rfl | rfl | rfl | rfl | rfl | rfl | rfl | h
  all_goals first | decide | (rw [offs_none h]; simp)

/-- Numbers laid at places: from a list, one behind the other. -/
def lay (l : List Int) (os : List Nat) (d : List Int) : List Int := os.foldl (fun d o => d.set o (fld l o)) d
theorem lay_take (l : List Int) (os : List Nat) (j : Nat) (h : j < os.length) (d : List Int) : lay l (os.take (j + 1)) d = (lay l (os.take j) d).set os[j] (fld l os[j]) := by
  unfold lay
  rw [List.take_succ_eq_append_getElem h, List.foldl_append]
  rfl
theorem lay_length (l : List Int) (os : List Nat) : ∀ d, (lay l os d).length = d.length := by
  induction os with
  | nil => intro d; rfl
  | cons o r ih => intro d; show (lay l r (d.set o _)).length = _; rw [ih]; simp
theorem lay_snoc (l : List Int) (os : List Nat) (o : Nat) (d : List Int) : lay l (os ++ [o]) d = (lay l os d).set o (fld l o) := by simp [lay]
theorem fld_lay_out (l : List Int) (os : List Nat) : ∀ d i, i ∉ os → fld (lay l os d) i = fld d i := by
  induction os with
  | nil => intro d i _; rfl
  | cons o r ih =>
    intro d i hi
    show fld (lay l r (d.set o _)) i = _
    rw [ih _ _ (fun h => hi (by simp [h])), fld_set_other (fun e => hi (by simp [e]))]
theorem fld_lay_in (l : List Int) (os : List Nat) : ∀ d i, i ∈ os → i < d.length → fld (lay l os d) i = fld l i := by
  induction os with
  | nil => intro d i h; simp at h
  | cons o r ih =>
    intro d i hi hd
    show fld (lay l r (d.set o _)) i = _
    by_cases hr : i ∈ r
    · exact ih _ _ hr (by simpa using hd)
    · rw [fld_lay_out _ _ _ _ hr]
      have : i = o := by simpa [hr] using hi
      subst this
      exact fld_set_same hd
/-- An event of a kind, and nothing else. -/
def bare (k : Int) : List Int := [k, 0, 0, 0, 0, 0, 0, 0]
theorem bare_length (k : Int) : (bare k).length = 8 := rfl
/-- An event without what its kind does not name. -/
def pureL (l : List Int) : List Int := if offs (fld l 0) = [] then bare 0 else lay l (offs (fld l 0)) (bare (fld l 0))
theorem pureL_length (l : List Int) : (pureL l).length = 8 := by
  unfold pureL; split
  · rfl
  · rw [lay_length]; rfl
theorem pureL_kind (l : List Int) (h : offs (fld l 0) ≠ []) : fld (pureL l) 0 = fld l 0 := by
  unfold pureL
  rw [if_neg h, fld_lay_out _ _ _ _ (fun h => by have := (offs_lt _ _ h).1; omega)]
  rfl
end Go.Proofs.YtanihdpgblkeaaaDoor
