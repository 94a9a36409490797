/-
  Messages as texts (reeve's layer 36): a line's words without the second and the third, joined, and read again.
-/
import Derived.Test.YtanihdpgblkeaaaGreatDoorRowAll
import Derived.Test.YtanihdpgblkeaaaGreatDoorWordsAll
import Derived.ArgAppend
namespace Go.Proofs.YtanihdpgblkeaaaGreatDoor
open Go.RowKit
set_option linter.unusedVariables false
set_option linter.unusedSimpArgs false

/-- A word: not empty, no blank, no hash. -/
def okW (y : List UInt8) : Prop := y ≠ [] ∧ ∀ c ∈ y, c ≠ 35 ∧ isB c = false
theorem refW_ok (s : List UInt8) : ∀ w, (∀ c ∈ w, c ≠ 35 ∧ isB c = false) → ∀ y ∈ refW w s, okW y := by
  induction s with
  | nil =>
    intro w hw y hy
    unfold refW at hy
    split at hy
    · cases hy
    · rename_i h; rw [List.mem_singleton] at hy; subst hy; exact ⟨h, hw⟩
  | cons x r ih =>
    intro w hw y hy
    unfold refW at hy
    split at hy
    · split at hy
      · cases hy
      · rename_i h; rw [List.mem_singleton] at hy; subst hy; exact ⟨h, hw⟩
    · rename_i h35
      split at hy
      · split at hy
        · exact ih [] (by intro c hc; cases hc) y hy
        · rename_i h
          rcases List.mem_cons.1 hy with rfl | hy
          · exact ⟨h, hw⟩
          · exact ih [] (by intro c hc; cases hc) y hy
      · rename_i hb
        refine ih (w ++ [x]) (fun c hc => ?_) y hy
        rcases List.mem_append.1 hc with h | h
        · exact hw c h
        · rw [List.mem_singleton] at h; subst h; exact ⟨h35, by simpa using hb⟩
theorem words_ok (s : List UInt8) : ∀ y ∈ wordsL s, okW y := refW_ok s [] (by intro c hc; cases hc)
def sumW (l : List (List UInt8)) : Nat := (l.map (fun y => y.length + 1)).sum
theorem sumW_cons (y : List UInt8) (l : List (List UInt8)) : sumW (y :: l) = y.length + 1 + sumW l := by simp [sumW]
theorem refW_sum (s : List UInt8) : ∀ w, sumW (refW w s) ≤ w.length + s.length + 1 := by
  induction s with
  | nil => intro w; unfold refW; split <;> simp [sumW]
  | cons x r ih =>
    intro w
    unfold refW
    split
    · split <;> simp [sumW]
    · split
      · split
        · have := ih []; simp at this ⊢; omega
        · rw [sumW_cons]; have := ih []; simp at this ⊢; omega
      · have := ih (w ++ [x]); simp at this ⊢; omega
theorem words_sum (s : List UInt8) : sumW (wordsL s) ≤ s.length + 1 := by have := refW_sum s []; simpa [wordsL] using this
theorem joinTail_len (l : List (List UInt8)) : (Lib.joinTail [32] l).length = sumW l := by
  induction l with
  | nil => rfl
  | cons y r ih =>
    have e : Lib.joinTail [32] (y :: r) = [32] ++ y ++ Lib.joinTail [32] r := by simp [Lib.joinTail]
    rw [e, sumW_cons, List.length_append, List.length_append, ih]; simp; omega
theorem join_len (x : List UInt8) (l : List (List UInt8)) : (Lib.join (x :: l) [32]).length + 1 = sumW (x :: l) := by
  rw [Lib.join_cons, List.length_append, joinTail_len, sumW_cons]; omega
theorem join_ok (x : List UInt8) (r : List (List UInt8)) (h : ∀ y ∈ x :: r, okW y) : wordsL (Lib.join (x :: r) [32]) = x :: r := words_join0 x r h
/-- A word, a blank, and words joined. -/
theorem words_head (x : List UInt8) (r : List (List UInt8)) (h : ∀ y ∈ x :: r, okW y) : wordsL (x ++ [32] ++ Lib.join r [32]) = x :: r := by
  cases r with
  | nil =>
    have hx := h x (by simp)
    show refW [] (x ++ [32] ++ []) = [x]
    rw [List.append_nil, refW_word x hx.2 [32] []]
    simp [refW, isB, hx.1]
  | cons y r =>
    have e : x ++ [32] ++ Lib.join (y :: r) [32] = Lib.join (x :: y :: r) [32] := by
      rw [Lib.join_cons, Lib.join_cons]; simp [Lib.joinTail]
    rw [e]
    exact join_ok x (y :: r) h
theorem head_len (x : List UInt8) (r : List (List UInt8)) : (x ++ [32] ++ Lib.join r [32]).length ≤ sumW (x :: r) := by
  cases r with
  | nil => simp [sumW, Lib.join]
  | cons y r => have := join_len y r; rw [sumW_cons]; simp; omega
set_option maxRecDepth 100000 in
/-- 'append(w[:1:1], w[3:]...)': at the operation. -/
theorem wp_append_cut {o : Oper} {a : Act} {K : Act → World → Prop} {Q : Exit → Act → World → Prop} (w : World) (s x : Operand) (i : TypeInfo)
    (ho : o.op = .call { callee := .builtin .append, args := #[s, x], argTypes := #[67, 67] })
    (ht : Tryz.prog.underlying 67 = some (.slice 9)) (hi : Tryz.prog.info? 9 = some i) (hz : i.zero = some (.string ⟨#[]⟩)) (hsize : i.size = 1) (hby : i.bytes = 16)
    (g : Nat) (ad : Addr) (m c : Nat) (x0 : ByteArray) (r : List ByteArray) (hs : a.eval s = .slice (some ⟨g, 0, none⟩) 1 1) (hx : a.eval x = .slice (some ad) m c) (h0 : w.cell? ⟨g, 0, none⟩ = some (.string x0)) (hm : r.length = m)
    (hr : ∀ j y, r[j]? = some y → w.cell? (ad.add j) = some (.string y)) (hm2 : m ≤ 1000000)
    (h : ∀ v' w', RowS w' v' (x0 :: r) → Below w.heap.size w w' → K (a.put o.dst v') w') : o.wp Tryz.prog a w K Q := by
  have hr' : ∀ j u, (r.map Value.string)[j]? = some u → w.cell? (ad.add j) = some u := by
    intro j u hj
    rw [List.getElem?_map] at hj
    cases hy : r[j]? with
    | none => rw [hy] at hj; cases hj
    | some y => rw [hy] at hj; injection hj with hj; rw [← hj]; exact hr j y hy
  have h0' : ∀ j u, [Value.string x0][j]? = some u → w.cell? ((⟨g, 0, none⟩ : Addr).add j) = some u := by
    intro j u hj
    cases j with
    | zero => simp at hj; subst hj; have e : (⟨g, 0, none⟩ : Addr).add 0 = ⟨g, 0, none⟩ := by simp [Addr.add]
              rw [e]; exact h0
    | succ j => simp at hj
  have hone : ∀ u ∈ r.map Value.string, u.oneCell' = true := by
    intro u hu
    rw [List.mem_map] at hu
    obtain ⟨y, _, rfl⟩ := hu
    rfl
  by_cases hm0 : m = 0
  · subst hm0
    obtain rfl : r = [] := List.eq_nil_of_length_eq_zero hm
    have hrun := run_append_room_cells (P := Tryz.prog) w 67 o.type 9 i ht hi g 0 1 1 ad 0 c [] (by simp) (by simp) (by simp) (by decide) (by simp) (by simp)
    unfold Oper.wp
    simp [execOp, ho, resolve, invoke, builtin, hs, hx, hrun, Result.andThen]
    refine h _ _ (.inr ⟨g, 0, 1, rfl, World.block_lt_of_cell? w _ h0, fun j y hj => ?_, by simp⟩) (Below.refl _ _)
    cases j with
    | zero => simp at hj; subst hj; exact h0
    | succ j => simp at hj
  · obtain ⟨v', w', hrun, r1, r2⟩ := run_append_arg_grows (P := Tryz.prog) w 67 o.type 9 i (.string ⟨#[]⟩) 1 16 ht hi hz hsize hby rfl (by decide) ⟨g, 0, none⟩ 1 1 [.string x0] rfl h0' ad m c (r.map Value.string) (by rw [List.length_map]; omega) hr' (by omega) (by unfold maxLen; omega) (by omega)
    unfold Oper.wp
    simp [execOp, ho, resolve, invoke, builtin, hs, hx, hrun, Result.andThen]
    refine h _ _ ?_ ⟨r2.os, r2.tape, r2.output, r2.size, fun k hk => r2.block k hk (by simp)⟩
    have ho' : OwnS w.heap.size w' v' (x0 :: r) := by
      unfold OwnS
      rw [List.length_cons, hm, Nat.add_comm, List.map_cons]
      exact r1
    exact ho'.row
end Go.Proofs.YtanihdpgblkeaaaGreatDoor
