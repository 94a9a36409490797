/-
  Slices whose elements are structs of whole numbers: what they hold, and slices of one's own.
-/
import Derived.Test.YtanihdpgblkeaaaGreatDoorEventAll
import Derived.Laws.AppendOwn
import Derived.Maps.AppendAt
namespace Go.Proofs.YtanihdpgblkeaaaGreatDoor
open Go.RowKit
set_option linter.unusedVariables false
set_option linter.unusedSimpArgs false

def cellsLL (L : List (List Int)) : List Value := L.flatMap (fun l => l.map (Value.int .i64))
theorem cellsLL_length {m : Nat} : ∀ {L : List (List Int)}, (∀ l ∈ L, l.length = m) → (cellsLL L).length = L.length * m := by
  intro L
  induction L with
  | nil => intro _; simp [cellsLL]
  | cons l r ih =>
    intro h
    have e : cellsLL (l :: r) = l.map (Value.int .i64) ++ cellsLL r := by simp [cellsLL]
    rw [e, List.length_append, ih (fun x hx => h x (by simp [hx])), List.length_map, h l (by simp), List.length_cons, Nat.succ_mul]
    omega
theorem cellsLL_at {m : Nat} : ∀ {L : List (List Int)}, (∀ l ∈ L, l.length = m) → ∀ (j : Nat) (l : List Int), L[j]? = some l → ∀ o, o < m → (cellsLL L)[j * m + o]? = some (.int .i64 (fld l o)) := by
  intro L
  induction L with
  | nil => intro _ j l h; simp at h
  | cons a r ih =>
    intro h j l hj o ho
    have e : cellsLL (a :: r) = a.map (Value.int .i64) ++ cellsLL r := by simp [cellsLL]
    have ha : a.length = m := h a (by simp)
    rw [e]
    cases j with
    | zero =>
      simp at hj; subst hj
      rw [List.getElem?_append_left (by rw [List.length_map]; omega), Nat.zero_mul, Nat.zero_add, List.getElem?_map]
      have hl : o < a.length := by omega
      simp [fld, hl]
    | succ j =>
      simp at hj
      rw [List.getElem?_append_right (by rw [List.length_map, ha, Nat.succ_mul]; omega), List.length_map, ha, show (j + 1) * m + o - m = j * m + o by rw [Nat.succ_mul]; omega]
      exact ih (fun x hx => h x (by simp [hx])) j l hj o ho
theorem cellsLL_snoc (L : List (List Int)) (l : List Int) : cellsLL (L ++ [l]) = cellsLL L ++ l.map (Value.int .i64) := by simp [cellsLL]
/-- A slice whose elements are structs of m numbers. -/
def RowM (m : Nat) (w : World) (v : Value) (L : List (List Int)) : Prop :=
  (∃ p cap, v = .slice p 0 cap ∧ L = []) ∨ ∃ b off cap, v = .slice (some ⟨b, off, none⟩) L.length cap ∧ b < w.heap.size ∧ L.length ≤ cap ∧ ∀ j l, L[j]? = some l → ∀ o, o < m → w.cell? ⟨b, off + (j * m + o), none⟩ = some (.int .i64 (fld l o))
theorem RowM.nil (m : Nat) (w : World) (p : Option Addr) (cap : Nat) : RowM m w (.slice p 0 cap) [] := .inl ⟨p, cap, rfl, rfl⟩
theorem RowM.below {m C : Nat} {w w' : World} {v : Value} {L : List (List Int)} (h : RowM m w v L) (hb : Below C w w') (hC : w.heap.size ≤ C) : RowM m w' v L := by
  rcases h with h | ⟨b, off, cap, h1, h2, h3, h4⟩
  · exact .inl h
  · exact .inr ⟨b, off, cap, h1, Nat.lt_of_lt_of_le h2 hb.size, h3, fun j l hj o ho => keepB (Below.mono hb hC) (h4 j l hj o ho) h2⟩
theorem RowM.len {m : Nat} {w : World} {v : Value} {L : List (List Int)} (h : RowM m w v L) : ∃ p cap, v = .slice p L.length cap := by
  rcases h with ⟨p, cap, rfl, rfl⟩ | ⟨b, off, cap, h1, _⟩
  · exact ⟨p, cap, rfl⟩
  · exact ⟨_, cap, h1⟩
theorem RowM.at {m : Nat} {w : World} {v : Value} {L : List (List Int)} (h : RowM m w v L) {j : Nat} (hj : j < L.length) : ∃ b off cap l, v = .slice (some ⟨b, off, none⟩) L.length cap ∧ L[j]? = some l ∧ b < w.heap.size ∧ ∀ o, o < m → w.cell? ⟨b, off + (j * m + o), none⟩ = some (.int .i64 (fld l o)) := by
  rcases h with ⟨_, _, rfl, rfl⟩ | ⟨b, off, cap, h1, h2, h3, h4⟩
  · exact absurd hj (by simp)
  · exact ⟨b, off, cap, L[j], h1, List.getElem?_eq_getElem hj, h2, h4 j _ (List.getElem?_eq_getElem hj)⟩
/-- What comes in: a slice whose cells are numbers is one of some lists. -/
theorem rowM_flat {m : Nat} (hm : 0 < m) {w : World} {a : Option Addr} {len cap : Nat} (h : IsFlat (List.replicate m (.int .i64)) w a len cap) :
    ∃ L : List (List Int), L.length = len ∧ RowM m w (.slice a len cap) L ∧ ∀ l ∈ L, l.length = m ∧ wfI l := by
  rcases isFlat_cases (by simpa using hm) h with h0 | ⟨b, off, rfl, hpos, hmax, hcap, hlb, hcell⟩
  · exact ⟨[], h0.symm, .inl ⟨a, cap, by rw [h0], rfl⟩, by simp⟩
  · have hx : ∀ i, i < len → ∀ j, j < m → ∃ n : Int, w.cell? ⟨b, off + (i * m + j), none⟩ = some (.int .i64 n) ∧ (Lit.int .i64 n).wf = true := by
      intro i hi j hj
      obtain ⟨v, hv, n, rfl, hn⟩ := hcell i hi j (.int .i64) (by simp [hj])
      rw [List.length_replicate] at hv
      exact ⟨n, hv, hn⟩
    have hy : ∀ i, ∃ l : List Int, l.length = m ∧ wfI l ∧ (i < len → ∀ o, o < m → w.cell? ⟨b, off + (i * m + o), none⟩ = some (.int .i64 (fld l o))) := by
      intro i
      by_cases hi : i < len
      · have hz : ∀ j, ∃ n : Int, (Lit.int .i64 n).wf = true ∧ (j < m → w.cell? ⟨b, off + (i * m + j), none⟩ = some (.int .i64 n)) := by
          intro j
          by_cases hj : j < m
          · obtain ⟨n, h1, h2⟩ := hx i hi j hj
            exact ⟨n, h2, fun _ => h1⟩
          · exact ⟨0, by decide, fun h => absurd h hj⟩
        let f : Nat → Int := fun j => Classical.choose (hz j)
        have hf := fun j => Classical.choose_spec (hz j)
        refine ⟨(List.range m).map f, by simp, ?_, ?_⟩
        · intro n hn
          obtain ⟨j, _, rfl⟩ := List.mem_map.1 hn
          exact (hf j).1
        · intro _ o ho
          have e : fld ((List.range m).map f) o = f o := by simp [fld, ho]
          rw [e]
          exact (hf o).2 ho
      · exact ⟨List.replicate m 0, by simp, by intro n hn; rw [List.mem_replicate] at hn; rw [hn.2]; decide, fun h => absurd h hi⟩
    let g : Nat → List Int := fun i => Classical.choose (hy i)
    have hg := fun i => Classical.choose_spec (hy i)
    have hL : ((List.range len).map g).length = len := by simp
    refine ⟨(List.range len).map g, hL, .inr ⟨b, off, cap, by rw [hL], hlb, by rw [hL]; exact hcap, ?_⟩, ?_⟩
    · intro j l hj o ho
      have hjl : j < len := by have := (List.getElem?_eq_some_iff.1 hj).1; rwa [hL] at this
      have e : l = g j := by rw [List.getElem?_map, List.getElem?_range hjl] at hj; simpa using hj.symm
      rw [e]
      exact (hg j).2.2 hjl o ho
    · intro l hl
      obtain ⟨i, _, rfl⟩ := List.mem_map.1 hl
      exact ⟨(hg i).1, (hg i).2.1⟩
/-- A slice of one's own whose elements are structs of m numbers. -/
def OwnM (T : TypeId) (m B : Nat) (w : World) (v : Value) (L : List (List Int)) : Prop := w.ownsRow B T m v L.length (cellsLL L)
theorem OwnM.nil (T : TypeId) (m B : Nat) (w : World) : OwnM T m B w (.slice none 0 0) [] := ⟨by simp [cellsLL], .inl ⟨rfl, rfl⟩⟩
theorem OwnM.below {T : TypeId} {m B C : Nat} {w w' : World} {v : Value} {L : List (List Int)} (h : OwnM T m B w v L) (hb : Below C w w') (hC : w.heap.size ≤ C) : OwnM T m B w' v L := by
  obtain ⟨h1, h2 | ⟨g, cap, cur, rfl, hg, hh, rest⟩⟩ := h
  · exact ⟨h1, .inl h2⟩
  · refine ⟨h1, .inr ⟨g, cap, cur, rfl, hg, ?_, rest⟩⟩
    rw [← hh]
    exact hb.block g (Nat.lt_of_lt_of_le (Array.getElem?_eq_some_iff.1 hh).1 hC)
theorem OwnM.mono {T : TypeId} {m B C : Nat} {w : World} {v : Value} {L : List (List Int)} (h : OwnM T m B w v L) (hC : C ≤ B) : OwnM T m C w v L := by
  obtain ⟨h1, h2 | ⟨g, cap, cur, rfl, hg, rest⟩⟩ := h
  · exact ⟨h1, .inl h2⟩
  · exact ⟨h1, .inr ⟨g, cap, cur, rfl, by omega, rest⟩⟩
theorem OwnM.gby {T : TypeId} {m B : Nat} {w0 w1 w2 : World} {v : Value} {L : List (List Int)} (h : OwnM T m B w1 v L) (hb : Below B w0 w1) (hB : B ≤ w1.heap.size) (hg : w1.grownBy w2 v.ownBlock) : Below B w0 w2 := by
  refine hb.trans ⟨hg.os, hg.tape, hg.output, hg.size, fun k hk => hg.block k (Nat.lt_of_lt_of_le hk hB) (fun e => ?_)⟩
  obtain ⟨_, ⟨rfl, _⟩ | ⟨g, cap, cur, rfl, hg1, _⟩⟩ := h
  · cases e
  · have : g = k := by have e2 := e.symm; simpa [Value.ownBlock] using e2
    omega
theorem OwnM.mk {T : TypeId} {m B : Nat} {w : World} {v : Value} {L : List (List Int)} {l : List Int} (h : w.ownsRow B T m v (L.length + 1) (cellsLL L ++ l.map (Value.int .i64))) : OwnM T m B w v (L ++ [l]) := by
  unfold OwnM
  rw [List.length_append, cellsLL_snoc]
  exact h
theorem OwnM.row {T : TypeId} {m B : Nat} {w : World} {v : Value} {L : List (List Int)} (hm : ∀ l ∈ L, l.length = m) (h : OwnM T m B w v L) : RowM m w v L := by
  have hc := fun g (hg : v.ownBlock = some g) => World.ownsRow.cells h (g := g) hg
  obtain ⟨h1, ⟨rfl, h2⟩ | ⟨g, cap, cur, rfl, hg, hh, hnc, _⟩⟩ := h
  · exact .inl ⟨none, 0, rfl, List.eq_nil_of_length_eq_zero h2⟩
  · refine .inr ⟨g, 0, cap, rfl, (Array.getElem?_eq_some_iff.1 hh).1, hnc, fun j l hj o ho => ?_⟩
    have := hc g rfl (j * m + o) _ (cellsLL_at hm j l hj o ho)
    rw [Nat.zero_add]; have e : (⟨g, 0, none⟩ : Addr).add (j * m + o) = ⟨g, j * m + o, none⟩ := by simp [Addr.add]; intro h1 h2; simp [h1, h2]
    rw [e] at this; exact this
theorem OwnM.len {T : TypeId} {m B : Nat} {w : World} {v : Value} {L : List (List Int)} (h : OwnM T m B w v L) : ∃ p cap, v = .slice p L.length cap := by
  obtain ⟨h1, ⟨rfl, h2⟩ | ⟨g, cap, cur, rfl, _⟩⟩ := h
  · exact ⟨none, 0, by rw [h2]⟩
  · exact ⟨_, cap, rfl⟩
/-- A block that was just made tells its cells. -/
theorem cells_new (w : World) (T : TypeId) (l : List Int) : ∀ j u, (l.map (Value.int .i64))[j]? = some u → (w.alloc (.cells (cellsI l) T)).cell? ((⟨w.heap.size, 0, none⟩ : Addr).add j) = some u := by
  intro j u hj
  have h := Blk.new w (cellsI l) T
  have e : (⟨w.heap.size, 0, none⟩ : Addr).add j = ⟨w.heap.size, j, none⟩ := by simp [Addr.add]; intro h1; exact h1.symm
  rw [e]
  exact h.cell (by simpa [cellsI] using hj)
theorem one_cells (l : List Int) : ∀ u ∈ l.map (Value.int .i64), u.oneCell' = true := by
  intro u hu; obtain ⟨n, _, rfl⟩ := List.mem_map.1 hu; rfl
end Go.Proofs.YtanihdpgblkeaaaGreatDoor
