/-
  What an argument that is made of integers, bools and strings alone is told as: each of its cells, by the type's shape (structs, arrays, and slices of these).
-/
import Derived.Test.YtanihdpgblkeaaaGreatDoorBase
import Derived.OpenShut
import Derived.Deep.Slices
namespace Go.Proofs.YtanihdpgblkeaaaGreatDoor
open Go.RowKit Go.ChangeShapes Go.WideShapes Go.Deep
set_option linter.unusedVariables false
set_option linter.unusedSimpArgs false

/-- What a cell may be. -/
inductive Lf where
  | int (k : IntKind)
  | bool
  | str
def Lf.ok : Lf → Value → Prop
  | .int k, v => ∃ n, v = .int k n ∧ (Lit.int k n).wf = true
  | .bool, v => ∃ b, v = .bool b
  | .str, v => ∃ s, v = .string s ∧ s.size ≤ maxLen

/-- Which cell a type has at a place. -/
def leafAt (P : Program) : Nat → TypeId → Nat → Option Lf
  | 0, _, _ => none
  | n + 1, t, j =>
    match P.underlying t with
    | some (.int k) => if j = 0 then some (.int k) else none
    | some .bool => if j = 0 then some .bool else none
    | some .string => if j = 0 then some .str else none
    | some (.array m e) => if P.cellsOf e = 0 then none else if j / P.cellsOf e < m then leafAt P n e (j % P.cellsOf e) else none
    | some (.struct fs) => (List.range fs.size).findSome? fun i =>
        match fs[i]? with
        | some f => if f.offset ≤ j then if j < f.offset + P.cellsOf f.type then leafAt P n f.type (j - f.offset) else none else none
        | none => none
    | _ => none

section
variable {H : Type} {enc : TypeId × Value → H} {P : Program} {w : World} {base : Nat} {spare : Nat → Bool} {held : Bool}

theorem get_part {α : Type} {cs : List α} {a c i : Nat} {v : α} (h : ((cs.drop a).take c)[i]? = some v) : cs[a + i]? = some v := by
  rw [List.getElem?_take] at h
  split at h
  · rwa [List.getElem?_drop] at h
  · cases h

theorem leaf_ok (n : Nat) : ∀ (t : TypeId) (j : Nat) (lf : Lf) (fuel : Nat) (cs : List Value) (x : DataW H × List MemPlace),
    leafAt P n t j = some lf → DataW.trod enc P w base spare held fuel t cs = some x → ∃ v, cs[j]? = some v ∧ lf.ok v := by
  induction n with
  | zero => intro t j lf fuel cs x h; simp [leafAt] at h
  | succ n ih =>
    intro t j lf fuel cs x h ht
    unfold leafAt at h
    split at h
    · rename_i k hu
      split at h
      · rename_i hj
        subst hj
        injection h with h
        subst h
        obtain ⟨m, rfl, _, hw⟩ := DataW.trod_int hu ht
        exact ⟨_, rfl, _, rfl, hw⟩
      · cases h
    · rename_i hu
      split at h
      · rename_i hj
        subst hj
        injection h with h
        subst h
        cases fuel with
        | zero => simp [DataW.trod] at ht
        | succ q =>
          unfold DataW.trod at ht
          rw [hu] at ht
          split at ht <;> simp_all
          exact ⟨_, rfl⟩
      · cases h
    · rename_i hu
      split at h
      · rename_i hj
        subst hj
        injection h with h
        subst h
        cases fuel with
        | zero => simp [DataW.trod] at ht
        | succ q =>
          unfold DataW.trod at ht
          rw [hu] at ht
          split at ht <;> simp_all
          exact ⟨_, rfl, by omega⟩
      · cases h
    · rename_i m e hu
      split at h
      · cases h
      · split at h
        · rename_i h0 hm
          obtain ⟨xs, q, _, _, _, hl, hx⟩ := DataW.trod_array hu ht
          have h1 := hx _ hm
          rw [List.getElem?_eq_getElem (by omega)] at h1
          obtain ⟨v, hv, hok⟩ := ih _ _ _ _ _ _ h h1
          have h2 := get_part hv
          rw [Nat.div_add_mod'] at h2
          exact ⟨v, h2, hok⟩
        · cases h
    · rename_i fs hu
      obtain ⟨i, _, hi⟩ := List.exists_of_findSome?_eq_some h
      split at hi
      · rename_i f hf
        split at hi
        · split at hi
          · rename_i h1 h2
            obtain ⟨xs, q, _, _, _, hl, hx⟩ := DataW.trod_struct hu ht
            have h3 := hx _ _ hf
            have hlt : i < fs.size := (Array.getElem?_eq_some_iff.1 hf).1
            rw [List.getElem?_eq_getElem (by omega)] at h3
            obtain ⟨v, hv, hok⟩ := ih _ _ _ _ _ _ hi h3
            have h4 := get_part hv
            rw [show f.offset + (j - f.offset) = j by omega] at h4
            exact ⟨v, h4, hok⟩
          · cases hi
        · cases hi
      · cases hi
    · cases h

/-- A struct's or an array's value: its cells. -/
theorem okWide_agg {r : Reach} {b0 : Nat} {t : TypeId} {v : Value} (ht : (match P.underlying t with | some (.struct _) => true | some (.array _ _) => true | _ => false) = true) (h : Value.okWide P w r b0 t v) :
    ∃ cs, v = .agg cs ∧ cs.size = P.cellsOf t := by
  unfold Value.okWide at h
  split at ht
  · rename_i fs hu
    simp only [hu] at h
    obtain ⟨cs, hv, hs, _⟩ := h
    exact ⟨cs, hv, hs⟩
  · rename_i n e hu
    simp only [hu] at h
    obtain ⟨cs, hv, hs, _⟩ := h
    exact ⟨cs, hv, hs⟩
  · cases ht

theorem agg_cells {cs : Array Value} : (Value.agg cs).cells = cs := rfl
theorem leaf_agg {n : Nat} {t : TypeId} {cs : Array Value} {d : DataW H} {ps : List MemPlace} (j : Nat) (lf : Lf) (h : leafAt P n t j = some lf) (ht : DataW.Trod enc P w base spare held t (.agg cs) d ps) : ∃ v, cs[j]? = some v ∧ lf.ok v := by
  obtain ⟨fuel, hf⟩ := ht
  obtain ⟨v, hv, hok⟩ := leaf_ok n t j lf fuel _ _ h hf
  exact ⟨v, by simpa [agg_cells] using hv, hok⟩

/-- What a walk is told of a slice whose elements are made of such cells. -/
def IsFlat (L : List Lf) (w : World) (a : Option Addr) (len cap : Nat) : Prop :=
  (a = none ∧ len = 0 ∧ cap = 0) ∨
  ∃ x, a = some x ∧ len ≤ cap ∧ cap ≤ maxLen ∧ ∀ i, i < cap → ∀ j lf, L[j]? = some lf → ∃ v, w.cell? (x.add (i * L.length + j)) = some v ∧ lf.ok v

theorem flat_slice {n : Nat} {t e : TypeId} {L : List Lf} {a : Option Addr} {len cap : Nat} {d : DataW H} {ps : List MemPlace} (ht : P.underlying t = some (.slice e)) (hL : L.length = P.cellsOf e) (hl : (List.range (P.cellsOf e)).map (leafAt P n e) = L.map some)
    (h : DataW.Trod enc P w base (fun _ => true) held t (.slice a len cap) d ps) : IsFlat L w a len cap := by
  obtain ⟨fuel, hf⟩ := h
  rcases open_slice ht hf with ⟨hcs, _⟩ | ⟨x, l, c, m, q, D, Pl, hcs, _, hl1, hm, hmm, _, hi⟩
  · simp [Value.cells] at hcs
    exact .inl hcs
  · simp [Value.cells] at hcs
    obtain ⟨rfl, rfl, rfl⟩ := hcs
    simp at hmm
    subst hmm
    refine .inr ⟨x, rfl, hl1, hm, fun i hic j lf hj => ?_⟩
    obtain ⟨cs', hc, hx⟩ := hi i hic
    have hjl : j < L.length := (List.getElem?_eq_some_iff.1 hj).1
    have hlj : leafAt P n e j = some lf := by
      have := congrArg (·[j]?) hl
      simp only [List.getElem?_map] at this
      rw [List.getElem?_range (by omega), hj] at this
      simpa using this
    obtain ⟨v, hv, hok⟩ := leaf_ok n e j lf _ _ _ hlj hx
    obtain ⟨_, hcl, hat⟩ := World.cells?_some hc
    refine ⟨v, ?_, hok⟩
    rw [hL, ← Go.Deep.add_add, hat j (by omega), hv]
end

theorem isFlat_cases {L : List Lf} (hL : 0 < L.length) {w : World} {a : Option Addr} {len cap : Nat} (h : IsFlat L w a len cap) :
    len = 0 ∨ ∃ b off, a = some ⟨b, off, none⟩ ∧ 0 < len ∧ len ≤ maxLen ∧ len ≤ cap ∧ b < w.heap.size ∧ ∀ i, i < len → ∀ j lf, L[j]? = some lf → ∃ v, w.cell? ⟨b, off + (i * L.length + j), none⟩ = some v ∧ lf.ok v := by
  rcases h with ⟨_, h, _⟩ | ⟨x, rfl, hl, hm, hc⟩
  · exact .inl h
  · by_cases h0 : len = 0
    · exact .inl h0
    · obtain ⟨b, off, spot⟩ := x
      obtain ⟨v, h1, _⟩ := hc 0 (by omega) 0 _ (List.getElem?_eq_getElem hL)
      have hs : spot = none := by simpa [Addr.add] using World.cell?_spot h1
      subst hs
      have e : ∀ k, ({ block := b, off := off, spot := none : Addr }).add k = ⟨b, off + k, none⟩ := fun k => by simp only [Addr.add]; split <;> simp_all
      refine .inr ⟨b, off, rfl, by omega, by omega, hl, by rw [e] at h1; exact World.block_lt_of_cell? w _ h1, fun i hi j lf hj => ?_⟩
      obtain ⟨v, h2, hok⟩ := hc i (by omega) j lf hj
      rw [e] at h2
      exact ⟨v, h2, hok⟩
end Go.Proofs.YtanihdpgblkeaaaGreatDoor
