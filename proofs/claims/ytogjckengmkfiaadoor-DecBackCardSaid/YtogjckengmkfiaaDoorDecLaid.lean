/-
  What the rows' listed tables are good for.
-/
import Derived.Test.YtogjckengmkfiaaDoorDecText
import Derived.MakeChecks
namespace Go.Proofs.YtogjckengmkfiaaDoor
open Go.RowKit
set_option linter.unusedVariables false
set_option linter.unusedSimpArgs false

theorem iface_head {n nm : String} {d : DataW Unit} {r : List (String × DataW Unit)} {W : World} {g : Nat} (hg : Tryd.prog.globalNamed n = some g) (ht : (Tryd.prog.globals[g]?).map (·.type) = some 83)
    (h : laidMet Tryd.prog ((n, .iface nm d) :: r) W) : ∃ tp p, W.var? Tryd.prog n = some #[.iface tp p] := by
  obtain ⟨ps, ⟨g', t', cs, fuel, p, q, hg', ht', hv, hd, _, _⟩, _⟩ := h
  obtain rfl := Option.some.inj (hg.symm.trans hg')
  obtain rfl := Option.some.inj (ht.symm.trans ht')
  obtain ⟨_, u, v, hcs, _⟩ := iface_of_trod Tryd.underlying83 hd
  refine ⟨u, v, ?_⟩
  rw [hv]
  congr 1
  exact Array.ext' hcs
theorem laid_pow {r : List (String × DataW Unit)} {W : World} (h : laidMet Tryd.prog (("internal/strconv.uint64pow10", Rows.laid_internal_strconv_uint64pow10) :: r) W) : Lib.TabIs Tryd.prog W "internal/strconv.uint64pow10" .u64 Lib.pow10Tab := by
  have e : (Rows.laid_internal_strconv_uint64pow10 : DataW Unit) = Lib.tabData .u64 Lib.pow10Tab := by kernel_rfl
  rw [e] at h
  obtain ⟨g, hg⟩ : ∃ g, Tryd.prog.globalNamed "internal/strconv.uint64pow10" = some g := Option.isSome_iff_exists.1 (by kernel_rfl)
  obtain ⟨ps, ⟨g', t', cs, fuel, p, q, hg', ht', hv, hd, hq, hps⟩, hnd, hrows⟩ := h
  obtain rfl := Option.some.inj (hg.symm.trans hg')
  have ht : ((Tryd.prog.globalNamed "internal/strconv.uint64pow10").bind fun g => (Tryd.prog.globals[g]?).map (·.type)) = some 137 := by kernel_rfl
  rw [hg] at ht
  exact Lib.tabIs_of_head hg ht Tryd.underlying137 Tryd.underlying120 (by kernel_rfl) (by kernel_rfl) ⟨ps, ⟨g, t', cs, fuel, p, q, hg', ht', hv, hd, hq, hps⟩, hnd, hrows⟩
theorem laid_err {n : String} {nm : String} {d : DataW Unit} {r : List (String × DataW Unit)} {W : World} (hn : ((Tryd.prog.globalNamed n).bind fun g => (Tryd.prog.globals[g]?).map (·.type)) = some 83) (h : laidMet Tryd.prog ((n, .iface nm d) :: r) W) : ∃ tp p, W.var? Tryd.prog n = some #[.iface tp p] := by
  cases hg : Tryd.prog.globalNamed n with
  | none => rw [hg] at hn; cases hn
  | some g => rw [hg] at hn; exact iface_head hg hn h
theorem laid_of7 {W : World} (h : laidMetH Tryd.prog Rows.decNumbersRow.laid W) : Laid W := by
  rw [MakeChecks.laidMetH_plain _ _ _ (by kernel_rfl)] at h
  have h2 := h.tail.tail
  exact ⟨laid_pow h2, laid_err (by kernel_rfl) h2.tail.tail.tail, laid_err (by kernel_rfl) h2.tail.tail⟩
theorem laid_of5 {W : World} (h : laidMetH Tryd.prog Rows.rowLinesRow.laid W) : Laid W := by
  rw [MakeChecks.laidMetH_plain _ _ _ (by kernel_rfl)] at h
  have h2 := h.tail.tail
  exact ⟨laid_pow h2, laid_err (by kernel_rfl) h2.tail.tail, laid_err (by kernel_rfl) h2.tail⟩
end Go.Proofs.YtogjckengmkfiaaDoor
