/-
  Numbers' texts with a comma between (reeve's layer 5): the program's List, the reference's List and ParseList.
-/
import Derived.Test.YtanihdpgblkeaaaDoorDecList
import Derived.Test.YtanihdpgblkeaaaDoorWords
namespace Go.Proofs.YtanihdpgblkeaaaDoor
open Go.RowKit
set_option linter.unusedVariables false
set_option linter.unusedSimpArgs false

theorem nil_app_ (X : ByteArray) : (⟨#[]⟩ : ByteArray) ++ X = X := by apply ByteArray.ext; simp
/-- Numbers as one text. -/
def listL (ns : List Int) : List UInt8 := Lib.join (ns.map Lib.itoa) [44]
theorem join_snoc_ (l : List (List UInt8)) (h : l ≠ []) (x sep : List UInt8) : Lib.join (l ++ [x]) sep = Lib.join l sep ++ sep ++ x := by
  cases l with
  | nil => exact absurd rfl h
  | cons y r => rw [List.cons_append, Lib.join_cons, Lib.join_cons]; simp [Lib.joinTail]
theorem listL_snoc (ns : List Int) (h : ns ≠ []) (n : Int) : listL (ns ++ [n]) = listL ns ++ [44] ++ Lib.itoa n := by
  unfold listL
  rw [List.map_append]
  exact join_snoc_ _ (by simp [h]) _ _
theorem listL_one (n : Int) : listL [n] = Lib.itoa n := Lib.join_one _ _
theorem listL_len (ns : List Int) (h : ∀ n ∈ ns, inI n) : (listL ns).length ≤ 21 * ns.length := by
  unfold listL
  cases ns with
  | nil => simp [Lib.join_nil]
  | cons a r =>
    have h1 := itoa_len a (h a (by simp))
    rw [List.map_cons, Lib.join_cons, List.length_append, Lib.joinTail_length, List.length_map]
    have h2 : Lib.lens (r.map Lib.itoa) ≤ 20 * r.length := by
      have hr : ∀ n ∈ r, inI n := fun n hn => h n (by simp [hn])
      clear h
      induction r with
      | nil => simp [Lib.lens]
      | cons b t ih =>
        have h3 := itoa_len b (hr b (by simp))
        have h4 := ih (fun n hn => hr n (by simp [hn]))
        simp only [Lib.lens, List.map_cons, List.sum_cons, List.length_cons] at h4 ⊢
        omega
    simp only [List.length_cons, List.length_nil]
    omega
theorem takeI_at {l : List Int} {i : Nat} {x : Int} (h : l[i]? = some x) : l.take (i + 1) = l.take i ++ [x] := by
  obtain ⟨hi, e⟩ := List.getElem?_eq_some_iff.1 h
  rw [List.take_succ_eq_append_getElem hi, e]
theorem rowN_pick {w : World} {p : Option Addr} {cap n : Nat} {l : List Int} (h : RowN w (.slice p n cap) l) (hn : l.length = n) : ∀ j, j < n → ∃ b off cp x, (Value.slice p n cap) = .slice (some ⟨b, off, none⟩) n cp ∧ l[j]? = some x ∧ w.cell? ⟨b, off + j, none⟩ = some (.int .i64 x) ∧ b < w.heap.size := by
  intro j hj
  rcases h with ⟨_, _, _, h0⟩ | ⟨b, off, cp, e1, hb, hc, _⟩
  · rw [h0] at hn; simp at hn; omega
  · rw [hn] at e1
    have hj' : j < l.length := by omega
    exact ⟨b, off, cp, l[j], e1, List.getElem?_eq_getElem hj', hc j _ (List.getElem?_eq_getElem hj'), hb⟩
set_option maxRecDepth 100000 in
theorem join_row (v : Value) (l : List (List UInt8)) (w : World) (hv : RowS w v (l.map strL)) (hl : l.length ≤ 1000000) (hlen : (Lib.join l [44]).length ≤ 100000000) :
    Calls Tryd.prog 48 #[v, .string ⟨#[44]⟩] w fun e w' => e = .returned (.string (strL (Lib.join l [44]))) ∧ Below w.heap.size w w' := by
  have hmm : (l.map strL).map (·.data.toList) = l := by
    rw [List.map_map]
    conv => rhs; rw [← List.map_id l]
    apply List.map_congr_left
    intro x _; rfl
  rcases hv with ⟨p, cap, rfl, h0⟩ | ⟨b, off, cap, rfl, hb, hc, hcap⟩
  · have : l = [] := by simpa using h0
    subst this
    exact (Tryd.strings_Join_none p cap ⟨#[44]⟩ w).mono fun e w' ⟨he, hw⟩ => ⟨he, hw ▸ Below.refl _ _⟩
  · have hx : ((l.map strL).length) ≤ 140737488355328 := by rw [List.length_map]; omega
    have hj : (Lib.join ((l.map strL).map (·.data.toList)) (⟨#[44]⟩ : ByteArray).data.toList).length ≤ 140737488355328 := by
      rw [hmm]
      refine Nat.le_trans hlen ?_
      omega
    have h := Tryd.strings_Join b off cap (l.map strL) ⟨#[44]⟩ w hc hb hx hcap hj
    rw [hmm] at h
    exact h
end Go.Proofs.YtanihdpgblkeaaaDoor
