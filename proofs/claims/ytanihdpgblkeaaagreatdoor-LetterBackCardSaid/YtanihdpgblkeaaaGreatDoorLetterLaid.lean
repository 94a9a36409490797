/-
  What the rows' listed tables are good for (the statements of reeve's layer 36).
-/
import Derived.Test.YtanihdpgblkeaaaGreatDoorLetterParse
import Derived.Test.YtanihdpgblkeaaaGreatDoorPairTab
import Derived.Test.YtanihdpgblkeaaaGreatDoorStrTab
import Derived.MakeChecks
namespace Go.Proofs.YtanihdpgblkeaaaGreatDoor
open Go.RowKit
set_option linter.unusedVariables false
set_option linter.unusedSimpArgs false

theorem iface_head_p {n nm : String} {d : DataW Unit} {r : List (String × DataW Unit)} {W : World} {g : Nat} (hg : Tryz.prog.globalNamed n = some g) (ht : (Tryz.prog.globals[g]?).map (·.type) = some 123)
    (h : laidMet Tryz.prog ((n, .iface nm d) :: r) W) : ∃ tp p, W.var? Tryz.prog n = some #[.iface tp p] := by
  obtain ⟨ps, ⟨g', t', cs, fuel, p, q, hg', ht', hv, hd, _, _⟩, _⟩ := h
  obtain rfl := Option.some.inj (hg.symm.trans hg')
  obtain rfl := Option.some.inj (ht.symm.trans ht')
  obtain ⟨_, u, v, hcs, _⟩ := iface_of_trod Tryz.underlying123 hd
  refine ⟨u, v, ?_⟩
  rw [hv]
  congr 1
  exact Array.ext' hcs
theorem laid_pow_p {r : List (String × DataW Unit)} {W : World} (h : laidMet Tryz.prog (("internal/strconv.uint64pow10", Rows.laid_internal_strconv_uint64pow10) :: r) W) : Lib.TabIs Tryz.prog W "internal/strconv.uint64pow10" .u64 Lib.pow10Tab := by
  have e : (Rows.laid_internal_strconv_uint64pow10 : DataW Unit) = Lib.tabData .u64 Lib.pow10Tab := by kernel_rfl
  rw [e] at h
  obtain ⟨g, hg⟩ : ∃ g, Tryz.prog.globalNamed "internal/strconv.uint64pow10" = some g := Option.isSome_iff_exists.1 (by kernel_rfl)
  obtain ⟨ps, ⟨g', t', cs, fuel, p, q, hg', ht', hv, hd, hq, hps⟩, hnd, hrows⟩ := h
  obtain rfl := Option.some.inj (hg.symm.trans hg')
  have ht : ((Tryz.prog.globalNamed "internal/strconv.uint64pow10").bind fun g => (Tryz.prog.globals[g]?).map (·.type)) = some 175 := by kernel_rfl
  rw [hg] at ht
  exact Lib.tabIs_of_head hg ht Tryz.underlying175 Tryz.underlying163 (by kernel_rfl) (by kernel_rfl) ⟨ps, ⟨g, t', cs, fuel, p, q, hg', ht', hv, hd, hq, hps⟩, hnd, hrows⟩
theorem laid_err_p {n : String} {nm : String} {d : DataW Unit} {r : List (String × DataW Unit)} {W : World} (hn : ((Tryz.prog.globalNamed n).bind fun g => (Tryz.prog.globals[g]?).map (·.type)) = some 123) (h : laidMet Tryz.prog ((n, .iface nm d) :: r) W) : ∃ tp p, W.var? Tryz.prog n = some #[.iface tp p] := by
  cases hg : Tryz.prog.globalNamed n with
  | none => rw [hg] at hn; cases hn
  | some g => rw [hg] at hn; exact iface_head_p hg hn h
/-- From whom to whom each kind goes, as the program's variable holds it. -/
def waysL : List (Int × Int) := [(2, 1), (1, 2), (1, 2), (1, 2), (2, 1), (3, 1), (3, 1), (1, 3)]
theorem waysL_at (k : Nat) (h : k < 8) : waysL[k]? = some (waysF (k + 1 : Nat)) := by
  have ha : k = 0 ∨ k = 1 ∨ k = 2 ∨ k = 3 ∨ k = 4 ∨ k = 5 ∨ k = 6 ∨ k = 7 := by omega
  rcases ha with rfl | rfl | rfl | rfl | rfl | rfl | rfl | rfl <;> rfl
theorem laid_ways {r : List (String × DataW Unit)} {W : World} (h : laidMet Tryz.prog (("reeve/msg.ways", Rows.laid_reeve_msg_ways) :: r) W) (k : Nat) (hk : k < 8) :
    W.cell? ⟨1, k * 2, none⟩ = some (.int .i64 (waysF (k + 1 : Nat)).1) ∧ W.cell? ⟨1, k * 2 + 1, none⟩ = some (.int .i64 (waysF (k + 1 : Nat)).2) := by
  have e : (Rows.laid_reeve_msg_ways : DataW Unit) = pairTab waysL := by kernel_rfl
  rw [e] at h
  have hg : Tryz.prog.globalNamed "reeve/msg.ways" = some 1 := by kernel_rfl
  have ht : (Tryz.prog.globals[1]?).map (·.type) = some 97 := by kernel_rfl
  exact pairIs_head hg ht Tryz.underlying97 Tryz.underlying96 Tryz.underlying3 (by kernel_rfl) (by kernel_rfl) (by kernel_rfl) h k _ (waysL_at k hk)
theorem laid_kindsM {r : List (String × DataW Unit)} {W : World} (h : laidMet Tryz.prog (("reeve/letter.kinds", Rows.laid_reeve_letter_kinds) :: r) W) (k : Nat) (hk : k < 8) : W.cell? ⟨0, k, none⟩ = some (.string (strL (kindWM (k + 1 : Nat)))) := by
  have e : (Rows.laid_reeve_letter_kinds : DataW Unit) = strTab kindsLM := by kernel_rfl
  rw [e] at h
  have hg : Tryz.prog.globalNamed "reeve/letter.kinds" = some 0 := by kernel_rfl
  have ht : (Tryz.prog.globals[0]?).map (·.type) = some 76 := by kernel_rfl
  have hs := strIs_head hg ht Tryz.underlying76 Tryz.underlying9 (by kernel_rfl) (by kernel_rfl) h
  have hc := StrIs.cell hs hg k (by simpa [kindsLM] using hk)
  rw [hc, List.getD_eq_getElem?_getD, kindsLM_at k hk]
  rfl
theorem laid_letter_Lines {W : World} (h : laidMetH Tryz.prog Rows.letterLinesRow.laid W) : LaidL W := by
  rw [MakeChecks.laidMetH_plain _ _ _ (by kernel_rfl)] at h
  have h2 := h.tail.tail
  exact ⟨⟨⟨laid_pow_p h2, laid_err_p (by kernel_rfl) h2.tail.tail, laid_err_p (by kernel_rfl) h2.tail⟩, fun k hk => laid_ways h2.tail.tail.tail k hk⟩, fun k hk => laid_kindsM h2.tail.tail.tail.tail k hk⟩
theorem laid_letter_Texts {W : World} (h : laidMetH Tryz.prog Rows.letterTextsRow.laid W) : LaidL W := by
  rw [MakeChecks.laidMetH_plain _ _ _ (by kernel_rfl)] at h
  have h2 := h.tail.tail
  exact ⟨⟨⟨laid_pow_p h2, laid_err_p (by kernel_rfl) h2.tail.tail.tail, laid_err_p (by kernel_rfl) h2.tail.tail⟩, fun k hk => laid_ways h2.tail.tail.tail.tail k hk⟩, fun k hk => laid_kindsM h2.tail.tail.tail.tail.tail k hk⟩
theorem laid_letter_Back {W : World} (h : laidMetH Tryz.prog Rows.letterBackRow.laid W) : LaidL W := by
  rw [MakeChecks.laidMetH_plain _ _ _ (by kernel_rfl)] at h
  have h2 := h.tail.tail
  exact ⟨⟨⟨laid_pow_p h2, laid_err_p (by kernel_rfl) h2.tail.tail.tail, laid_err_p (by kernel_rfl) h2.tail.tail⟩, fun k hk => laid_ways h2.tail.tail.tail.tail k hk⟩, fun k hk => laid_kindsM h2.tail.tail.tail.tail.tail k hk⟩
end Go.Proofs.YtanihdpgblkeaaaGreatDoor
