/-
  A package variable that is an array of pairs of whole numbers: what a row that lists it tells of its cells.
-/
import Derived.Test.YtanihdpgblkeaaaGreatDoorWordsAll
import Derived.Lib.LaidTab
namespace Go.Proofs.YtanihdpgblkeaaaGreatDoor
open Go.RowKit
set_option linter.unusedVariables false
set_option linter.unusedSimpArgs false

/-- The array as a row lists it. -/
def pairTab {H : Type} (ps : List (Int × Int)) : DataW H := .agg (ps.map fun q => Lib.tabData .i64 [q.1, q.2])
theorem cells_of_pairs {H : Type} {enc : TypeId × Value → H} {P : Program} {w : World} {base : Nat} {sp : Nat → Bool} {held : Bool} {fuel : Nat} {t e i0 : TypeId} {n : Nat} {cs : List Value} {ps : List (Int × Int)} {p : List MemPlace}
    (ht : P.underlying t = some (.array n e)) (he : P.underlying e = some (.array 2 i0)) (hi0 : P.underlying i0 = some (.int .i64)) (hci : P.cellsOf i0 = 1) (hce : P.cellsOf e = 2) (hct : P.cellsOf t = n * 2)
    (h : DataW.trod enc P w base sp held fuel t cs = some (pairTab ps, p)) (i : Nat) (q : Int × Int) (hq : ps[i]? = some q) : cs[i * 2]? = some (.int .i64 q.1) ∧ cs[i * 2 + 1]? = some (.int .i64 q.2) := by
  cases fuel with
  | zero => simp [DataW.trod] at h
  | succ fuel =>
    simp only [DataW.trod, ht, hce, hct] at h
    split at h
    · rename_i hl
      obtain ⟨xs, hm, hx⟩ := Option.map_eq_some_iff.1 h
      have hxs : xs.map (·.1) = ps.map fun q => (Lib.tabData .i64 [q.1, q.2] : DataW H) := by
        have := congrArg Prod.fst hx
        simpa [pairTab] using this
      have hxl : xs.length = n := by simpa using Lib.mapM_length hm
      have hzl : ps.length = n := by
        have := congrArg List.length hxs
        simp at this
        omega
      have hi : i < n := by rw [← hzl]; exact (List.getElem?_eq_some_iff.1 hq).1
      obtain ⟨b, hb, hf⟩ := Lib.mapM_at hm i i (by simp [hi])
      have h2 : (xs.map (·.1))[i]? = some b.1 := by simp [hb]
      rw [hxs, List.getElem?_map, hq] at h2
      have h3 : b = (Lib.tabData .i64 [q.1, q.2], b.2) := by
        have := Option.some.inj h2
        exact Prod.ext this.symm rfl
      rw [h3] at hf
      have hc := Lib.cells_of_tab he hi0 hci hce hf
      have c0 := congrArg (·[0]?) hc
      have c1 := congrArg (·[1]?) hc
      simp [List.getElem?_take, List.getElem?_drop] at c0 c1
      exact ⟨c0, c1⟩
    · cases h
theorem pairIs_head {P : Program} {W : World} {name : String} {ps : List (Int × Int)} {rest : List (String × DataW Unit)} {g : Nat} {t e i0 : TypeId} {n : Nat}
    (hg : P.globalNamed name = some g) (hty : (P.globals[g]?).map (·.type) = some t) (ht : P.underlying t = some (.array n e)) (he : P.underlying e = some (.array 2 i0)) (hi0 : P.underlying i0 = some (.int .i64)) (hci : P.cellsOf i0 = 1) (hce : P.cellsOf e = 2) (hct : P.cellsOf t = n * 2)
    (h : laidMet P ((name, pairTab ps) :: rest) W) (i : Nat) (q : Int × Int) (hq : ps[i]? = some q) : W.cell? ⟨g, i * 2, none⟩ = some (.int .i64 q.1) ∧ W.cell? ⟨g, i * 2 + 1, none⟩ = some (.int .i64 q.2) := by
  obtain ⟨pp, ⟨g', t', cs, fuel, p, q', hg', ht', hvar, hd, _, _⟩, _⟩ := h
  obtain rfl := Option.some.inj (hg.symm.trans hg')
  obtain rfl := Option.some.inj (hty.symm.trans ht')
  obtain ⟨h0, h1⟩ := cells_of_pairs ht he hi0 hci hce hct hd i q hq
  have v0 := World.var?_cell hg hvar (i * 2)
  have v1 := World.var?_cell hg hvar (i * 2 + 1)
  rw [v0, v1]
  exact ⟨by simpa using h0, by simpa using h1⟩
end Go.Proofs.YtanihdpgblkeaaaGreatDoor
