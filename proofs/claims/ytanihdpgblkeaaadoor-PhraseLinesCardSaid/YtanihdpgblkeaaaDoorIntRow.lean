/-
  Rows of whole numbers: a call's own, and any; and Same (the reference of reeve's layer 1).
-/
import Derived.Test.YtanihdpgblkeaaaDoorStrRow
namespace Go.Proofs.YtanihdpgblkeaaaDoor
open Go.RowKit
set_option linter.unusedVariables false
set_option linter.unusedSimpArgs false

/-- A row of numbers of the call's own. -/
def OwnN (B : Nat) (w : World) (v : Value) (l : List Int) : Prop := w.ownsRow B 3 1 v l.length (l.map (Value.int .i64))
theorem OwnN.nil (B : Nat) (w : World) : OwnN B w (.slice none 0 0) [] := ⟨rfl, .inl ⟨rfl, rfl⟩⟩
theorem OwnN.below {B C : Nat} {w w' : World} {v : Value} {l : List Int} (h : OwnN B w v l) (hb : Below C w w') (hC : w.heap.size ≤ C) : OwnN B w' v l := by
  obtain ⟨h1, h2 | ⟨g, cap, cur, rfl, hg, hh, rest⟩⟩ := h
  · exact ⟨h1, .inl h2⟩
  · refine ⟨h1, .inr ⟨g, cap, cur, rfl, hg, ?_, rest⟩⟩
    rw [← hh]
    exact hb.block g (Nat.lt_of_lt_of_le (Array.getElem?_eq_some_iff.1 hh).1 hC)

theorem OwnN.gby {B : Nat} {w0 w1 w2 : World} {v : Value} {l : List Int} (h : OwnN B w1 v l) (hb : Below B w0 w1) (hB : B ≤ w1.heap.size) (hg : w1.grownBy w2 v.ownBlock) : Below B w0 w2 := by
  refine hb.trans ⟨hg.os, hg.tape, hg.output, hg.size, fun k hk => hg.block k (Nat.lt_of_lt_of_le hk hB) (fun e => ?_)⟩
  obtain ⟨_, ⟨rfl, _⟩ | ⟨g, cap, cur, rfl, hg1, _⟩⟩ := h
  · cases e
  · have : g = k := by have e2 := e.symm; simpa [Value.ownBlock] using e2
    omega
theorem OwnN.mk {B : Nat} {w : World} {v : Value} {l : List Int} {b : Int} (h : w.ownsRow B 3 1 v (l.length + 1) (l.map (Value.int .i64) ++ [Value.int .i64 b])) : OwnN B w v (l ++ [b]) := by
  unfold OwnN
  rw [List.length_append, List.map_append]
  exact h

/-- A slice that holds numbers. -/
def RowN (w : World) (v : Value) (l : List Int) : Prop :=
  (∃ p cap, v = .slice p 0 cap ∧ l = []) ∨ ∃ b off cap, v = .slice (some ⟨b, off, none⟩) l.length cap ∧ b < w.heap.size ∧ (∀ j x, l[j]? = some x → w.cell? ⟨b, off + j, none⟩ = some (.int .i64 x)) ∧ l.length ≤ cap
theorem OwnN.row {B : Nat} {w : World} {v : Value} {l : List Int} (h : OwnN B w v l) : RowN w v l := by
  have hc := fun g (hg : v.ownBlock = some g) => World.ownsRow.cells h (g := g) hg
  obtain ⟨h1, ⟨rfl, h2⟩ | ⟨g, cap, cur, rfl, hg, hh, hnc, _⟩⟩ := h
  · exact .inl ⟨none, 0, rfl, List.eq_nil_of_length_eq_zero h2⟩
  · refine .inr ⟨g, 0, cap, rfl, (Array.getElem?_eq_some_iff.1 hh).1, fun j x hj => ?_, hnc⟩
    have := hc g rfl j (.int .i64 x) (by rw [List.getElem?_map, hj]; rfl)
    rw [Nat.zero_add]; have e : (⟨g, 0, none⟩ : Addr).add j = ⟨g, j, none⟩ := by simp [Addr.add]; intro h; exact h.symm
    rw [e] at this; exact this
theorem RowN.below {C : Nat} {w w' : World} {v : Value} {l : List Int} (h : RowN w v l) (hb : Below C w w') (hC : w.heap.size ≤ C) : RowN w' v l := by
  rcases h with h | ⟨b, off, cap, h1, h2, h3, h4⟩
  · exact .inl h
  · exact .inr ⟨b, off, cap, h1, Nat.lt_of_lt_of_le h2 hb.size, fun j x hj => keepB (Below.mono hb hC) (h3 j x hj) h2, h4⟩
/-- What a slice of numbers holds, element by element. -/
theorem RowN.at {w : World} {v : Value} {l : List Int} (h : RowN w v l) {j : Nat} (hj : j < l.length) : ∃ b off cap x, v = .slice (some ⟨b, off, none⟩) l.length cap ∧ l[j]? = some x ∧ w.cell? ⟨b, off + j, none⟩ = some (.int .i64 x) := by
  rcases h with ⟨_, _, rfl, rfl⟩ | ⟨b, off, cap, h1, h2, h3, _⟩
  · exact absurd hj (by simp)
  · exact ⟨b, off, cap, l[j], h1, List.getElem?_eq_getElem hj, h3 j _ (List.getElem?_eq_getElem hj)⟩
theorem RowN.len {w : World} {v : Value} {l : List Int} (h : RowN w v l) : ∃ p cap, v = .slice p l.length cap := by
  rcases h with ⟨p, cap, rfl, rfl⟩ | ⟨b, off, cap, h1, h2, h3, _⟩
  · exact ⟨p, cap, rfl⟩
  · exact ⟨_, cap, h1⟩
end Go.Proofs.YtanihdpgblkeaaaDoor
