/-
  What the rows' listed tables are good for (the statements of reeve's layer 19).
-/
import Derived.Test.YtanihdpgblkeaaaGreatDoorDecAll
import Derived.Test.YtanihdpgblkeaaaGreatDoorStrTab
import Derived.Test.YtanihdpgblkeaaaGreatDoorPhraseMath
import Derived.MakeChecks
namespace Go.Proofs.YtanihdpgblkeaaaGreatDoor
open Go.RowKit
set_option linter.unusedVariables false
set_option linter.unusedSimpArgs false

theorem iface_head_p {n nm : String} {d : DataW Unit} {r : List (String × DataW Unit)} {W : World} {g : Nat} (hg : Tryz.prog.globalNamed n = some g) (ht : (Tryz.prog.globals[g]?).map (·.type) = some 123)
    (h : laidMet Tryz.prog ((n, .iface nm d) :: r) W) : ∃ tp p, W.var? Tryz.prog n = some #[.iface tp p] := by
  obtain ⟨ps, ⟨g', t', cs, fuel, p, q, hg', ht', hv, hd, _, _⟩, _⟩ := h
  obtain rfl := Option.some.inj (hg.symm.trans hg')
  obtain rfl := Option.some.inj (ht.symm.trans ht')
  obtain ⟨_, u, v, hcs, _⟩ := iface_of_trod Tryz.underlying123 hd
  refine ⟨u, v, ?_⟩
  rw [hv]
  congr 1
  exact Array.ext' hcs
theorem laid_pow_p {r : List (String × DataW Unit)} {W : World} (h : laidMet Tryz.prog (("internal/strconv.uint64pow10", Rows.laid_internal_strconv_uint64pow10) :: r) W) : Lib.TabIs Tryz.prog W "internal/strconv.uint64pow10" .u64 Lib.pow10Tab := by
  have e : (Rows.laid_internal_strconv_uint64pow10 : DataW Unit) = Lib.tabData .u64 Lib.pow10Tab := by kernel_rfl
  rw [e] at h
  obtain ⟨g, hg⟩ : ∃ g, Tryz.prog.globalNamed "internal/strconv.uint64pow10" = some g := Option.isSome_iff_exists.1 (by kernel_rfl)
  obtain ⟨ps, ⟨g', t', cs, fuel, p, q, hg', ht', hv, hd, hq, hps⟩, hnd, hrows⟩ := h
  obtain rfl := Option.some.inj (hg.symm.trans hg')
  have ht : ((Tryz.prog.globalNamed "internal/strconv.uint64pow10").bind fun g => (Tryz.prog.globals[g]?).map (·.type)) = some 175 := by kernel_rfl
  rw [hg] at ht
  exact Lib.tabIs_of_head hg ht Tryz.underlying175 Tryz.underlying163 (by kernel_rfl) (by kernel_rfl) ⟨ps, ⟨g, t', cs, fuel, p, q, hg', ht', hv, hd, hq, hps⟩, hnd, hrows⟩
theorem laid_err_p {n : String} {nm : String} {d : DataW Unit} {r : List (String × DataW Unit)} {W : World} (hn : ((Tryz.prog.globalNamed n).bind fun g => (Tryz.prog.globals[g]?).map (·.type)) = some 123) (h : laidMet Tryz.prog ((n, .iface nm d) :: r) W) : ∃ tp p, W.var? Tryz.prog n = some #[.iface tp p] := by
  cases hg : Tryz.prog.globalNamed n with
  | none => rw [hg] at hn; cases hn
  | some g => rw [hg] at hn; exact iface_head_p hg hn h
/-- The kinds' words, as the program's variable holds them. -/
def kindsL : List (List UInt8) := [kindW 1, kindW 2, kindW 3, kindW 4, kindW 5, kindW 6, kindW 7]
theorem kindsL_at (k : Nat) (h : k < 7) : kindsL[k]? = some (kindW (k + 1 : Nat)) := by
  have ha : k = 0 ∨ k = 1 ∨ k = 2 ∨ k = 3 ∨ k = 4 ∨ k = 5 ∨ k = 6 := by omega
  rcases ha with rfl | rfl | rfl | rfl | rfl | rfl | rfl <;> rfl
/-- What is asked of the world's variables. -/
structure LaidP (w : World) : Prop where
  laid : Laid w
  kinds : ∀ k : Nat, k < 7 → w.cell? ⟨2, k, none⟩ = some (.string (strL (kindW (k + 1 : Nat))))
theorem LaidP.lt {w : World} (h : LaidP w) : 2 < w.heap.size := World.block_lt_of_cell? w _ (h.kinds 0 (by decide))
theorem LaidP.below {w w' : World} (h : LaidP w) (hb : Below w.heap.size w w') : LaidP w' :=
  ⟨h.laid.below hb, fun k hk => keepB hb (h.kinds k hk) h.lt⟩
theorem laid_kinds {r : List (String × DataW Unit)} {W : World} (h : laidMet Tryz.prog (("reeve/phrase.kinds", Rows.laid_reeve_phrase_kinds) :: r) W) (k : Nat) (hk : k < 7) : W.cell? ⟨2, k, none⟩ = some (.string (strL (kindW (k + 1 : Nat)))) := by
  have e : (Rows.laid_reeve_phrase_kinds : DataW Unit) = strTab kindsL := by kernel_rfl
  rw [e] at h
  have hg : Tryz.prog.globalNamed "reeve/phrase.kinds" = some 2 := by kernel_rfl
  have ht : (Tryz.prog.globals[2]?).map (·.type) = some 117 := by kernel_rfl
  have hs := strIs_head hg ht Tryz.underlying117 Tryz.underlying9 (by kernel_rfl) (by kernel_rfl) h
  have hc := StrIs.cell hs hg k (by simpa [kindsL] using hk)
  rw [hc, List.getD_eq_getElem?_getD, kindsL_at k hk]
  rfl
theorem laid_phrase_Texts {W : World} (h : laidMetH Tryz.prog Rows.phraseTextsRow.laid W) : LaidP W := by
  rw [MakeChecks.laidMetH_plain _ _ _ (by kernel_rfl)] at h
  have h2 := h.tail.tail
  exact ⟨⟨laid_pow_p h2, laid_err_p (by kernel_rfl) h2.tail.tail.tail, laid_err_p (by kernel_rfl) h2.tail.tail⟩, fun k hk => laid_kinds h2.tail.tail.tail.tail k hk⟩
theorem laid_phrase_Back {W : World} (h : laidMetH Tryz.prog Rows.phraseBackRow.laid W) : LaidP W := by
  rw [MakeChecks.laidMetH_plain _ _ _ (by kernel_rfl)] at h
  have h2 := h.tail.tail
  exact ⟨⟨laid_pow_p h2, laid_err_p (by kernel_rfl) h2.tail.tail.tail, laid_err_p (by kernel_rfl) h2.tail.tail⟩, fun k hk => laid_kinds h2.tail.tail.tail.tail k hk⟩
end Go.Proofs.YtanihdpgblkeaaaGreatDoor
