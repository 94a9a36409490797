/-
  Rows of whole numbers that a call makes.
-/
import Derived.Test.YtanihdpgblkeaaaDoorEventMath
import Derived.Laws.AppendOwn
import Derived.Maps.AppendAt
namespace Go.Proofs.YtanihdpgblkeaaaDoor
open Go.RowKit
set_option linter.unusedVariables false
set_option linter.unusedSimpArgs false

/-- A row of numbers of the call's own. -/
def OwnI (B : Nat) (w : World) (v : Value) (l : List Int) : Prop := w.ownsRow B 3 1 v l.length (l.map (Value.int .i64))
theorem OwnI.nil (B : Nat) (w : World) : OwnI B w (.slice none 0 0) [] := ⟨rfl, .inl ⟨rfl, rfl⟩⟩
theorem OwnI.below {B C : Nat} {w w' : World} {v : Value} {l : List Int} (h : OwnI B w v l) (hb : Below C w w') (hC : w.heap.size ≤ C) : OwnI B w' v l := by
  obtain ⟨h1, h2 | ⟨g, cap, cur, rfl, hg, hh, rest⟩⟩ := h
  · exact ⟨h1, .inl h2⟩
  · refine ⟨h1, .inr ⟨g, cap, cur, rfl, hg, ?_, rest⟩⟩
    rw [← hh]
    exact hb.block g (Nat.lt_of_lt_of_le (Array.getElem?_eq_some_iff.1 hh).1 hC)
theorem OwnI.gby {B : Nat} {w0 w1 w2 : World} {v : Value} {l : List Int} (h : OwnI B w1 v l) (hb : Below B w0 w1) (hB : B ≤ w1.heap.size) (hg : w1.grownBy w2 v.ownBlock) : Below B w0 w2 := by
  refine hb.trans ⟨hg.os, hg.tape, hg.output, hg.size, fun k hk => hg.block k (Nat.lt_of_lt_of_le hk hB) (fun e => ?_)⟩
  obtain ⟨_, ⟨rfl, _⟩ | ⟨g, cap, cur, rfl, hg1, _⟩⟩ := h
  · cases e
  · have : g = k := by have e2 := e.symm; simpa [Value.ownBlock] using e2
    omega
theorem OwnI.mono {B C : Nat} {w : World} {v : Value} {l : List Int} (h : OwnI B w v l) (hC : C ≤ B) : OwnI C w v l := by
  obtain ⟨h1, h2 | ⟨g, cap, cur, rfl, hg, hh, rest⟩⟩ := h
  · exact ⟨h1, .inl h2⟩
  · exact ⟨h1, .inr ⟨g, cap, cur, rfl, Nat.le_trans hC hg, hh, rest⟩⟩
theorem OwnI.mk {B : Nat} {w : World} {v : Value} {l : List Int} {b : Int} (h : w.ownsRow B 3 1 v (l.length + 1) (l.map (Value.int .i64) ++ [Value.int .i64 b])) : OwnI B w v (l ++ [b]) := by
  unfold OwnI
  rw [List.length_append, List.map_append]
  exact h
theorem OwnI.row {B : Nat} {w : World} {v : Value} {l : List Int} (h : OwnI B w v l) : RowV B w v (l.map (Value.int .i64)) := by
  have hc := fun g (hg : v.ownBlock = some g) => World.ownsRow.cells h (g := g) hg
  obtain ⟨h1, ⟨rfl, h2⟩ | ⟨g, cap, cur, rfl, hg, hh, _⟩⟩ := h
  · exact .inl ⟨none, 0, rfl, by rw [List.eq_nil_of_length_eq_zero h2]; rfl⟩
  · refine .inr ⟨g, 0, cap, by rw [List.length_map], hg, (Array.getElem?_eq_some_iff.1 hh).1, fun j x hj => ?_⟩
    have := hc g rfl j x hj
    rw [Nat.zero_add]; have e : (⟨g, 0, none⟩ : Addr).add j = ⟨g, j, none⟩ := by simp [Addr.add]; intro h; exact h.symm
    rw [e] at this; exact this
theorem OwnI.len {B : Nat} {w : World} {v : Value} {l : List Int} (h : OwnI B w v l) : ∃ p cap, v = .slice p l.length cap := by
  obtain ⟨p, cap, e⟩ := h.row.len
  rw [List.length_map] at e
  exact ⟨p, cap, e⟩
set_option maxRecDepth 100000 in
/-- One number more, as an operation of the walk. -/
theorem ev_appI {ops : Array Oper} {rest : List Oper} {o : Oper} {a : Act} {Q : Exit → Act → World → Prop} {w : World} (hgd : o.guard = none) (s x : Operand)
    (ho : o.op = .call { callee := .builtin .append, args := #[s, x], argTypes := #[39, 39] }) (B : Nat) (w0 : World) (v : Value) (l : List Int) (hs : a.eval s = v) (h : OwnI B w v l) (hb : Below B w0 w) (hB : B ≤ w.heap.size)
    (g : Nat) (n : Int) (hx : a.eval x = .slice (some ⟨g, 0, none⟩) 1 1) (hg : w.cell? ⟨g, 0, none⟩ = some (.int .i64 n)) (hl : l.length ≤ 1000000)
    (hk : ∀ v' w', OwnI B w' v' (l ++ [n]) → Below B w0 w' → w.grownBy w' v.ownBlock → wpList Tryd.prog ops Q rest (a.put o.dst v') w') : wpList Tryd.prog ops Q (o :: rest) a w := by
  obtain ⟨i0, hi, hz, hsz, hby⟩ : ∃ i, Tryd.prog.info? 3 = some i ∧ i.zero = some (.int .i64 0) ∧ i.size = 1 ∧ i.bytes = 8 := ⟨_, rfl, rfl, rfl, rfl⟩
  refine wpList_append_own _ hgd s x 39 ho B 3 i0 (.int .i64 0) 1 8 Tryd.underlying39 hi hz hsz hby rfl (by decide) v l.length (l.map (Value.int .i64)) hs h ⟨g, 0, none⟩ 1 1 [.int .i64 n] hx rfl ?_ ?_ ?_ ?_ hB ?_
  · intro j u hj
    match j, hj with
    | 0, hj => simp at hj; subst hj; simpa [Addr.add] using hg
    | j + 1, hj => simp at hj
  · intro u hu; simp at hu; subst hu; rfl
  · unfold maxLen; omega
  · omega
  · intro v' w' hown hgr _
    exact hk v' w' (OwnI.mk hown) (OwnI.gby h hb hB hgr) hgr
end Go.Proofs.YtanihdpgblkeaaaDoor
