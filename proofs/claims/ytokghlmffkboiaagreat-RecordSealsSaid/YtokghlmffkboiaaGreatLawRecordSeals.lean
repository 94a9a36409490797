/-
  The statement Rows.RecordSealsSaid is proved: reeve/reevelaw20.RecordSeals returns true for every input, and its input reads behind the call as it read before. No condition.
-/
import Derived.Test.YtokghlmffkboiaaGreatRows
import Derived.Test.YtokghlmffkboiaaGreatRecordSealsWalk
import Derived.Test.YtokghlmffkboiaaGreatFlat
import Derived.WalkKit
import Derived.ProofKit
import Derived.OpenShut
import Derived.ShutString
import Derived.SliceStrings
import Derived.ChangeOld
import Derived.Below
namespace Go.Proofs.YtokghlmffkboiaaGreat.recordSeals
open Go.ChangeShapes Go.WideShapes Go.ChangeAt Go.RowKit
open Go.ChangeMaps (open_string shut_string)
set_option linter.unusedVariables false
set_option linter.unusedSimpArgs false

theorem own : ownKnob Tryz.prog.godebug = none := by kernel_rfl
theorem laidOut : laidOutB Tryz.prog = true := by kernel_rfl

set_option maxRecDepth 100000 in
theorem lifted (os : Os) (started : os.Started) (H : Type) (enc : TypeId × Value → H) :
    ReturnsInHanded {} Tryz.checked os 3 .any (Rows.recordSealsSpec.pre6 enc Tryz.prog Tryz.f3 Rows.recordSealsRow.domain false) (Rows.recordSealsSpec.post enc Tryz.prog Tryz.f3 false true false false) := by
  refine returnsInHanded_of_change (C := Tryz.checked) own started (by kernel_rfl) Tryz.func3
    (ChangeSpec.witness6 (enc := enc) (C := Tryz.checked) false ⟨#[], #[.agg #[.int .i64 0, .int .i64 0, .int .i64 0, .int .i64 0, .int .i64 0, .int .i64 0, .int .i64 0, .int .i64 0, .int .i64 0, .int .i64 0], .string ByteArray.empty], []⟩ 8 (by kernel_rfl) (by kernel_rfl) (by kernel_rfl) (by kernel_rfl)) ?_
  intro W base args ds gs before hval0 hW hcnd _
  have hval : ∀ (j : Nat) t v, Tryz.f3.params[j]? = some t → args[j]? = some v → Value.okWide Tryz.prog W .any base t v := hval0
  have hW' := hW
  obtain ⟨p, q, hA0, hV, rfl, hfz, hnd⟩ := hW
  have hA : DataW.TrodAll enc Tryz.prog W 0 (fun _ => true) true Tryz.f3.params.toList args.toList ds p := hA0
  rw [Tryz.params3] at hA hval
  obtain ⟨v0, vs0, d0, ds0, p0, q0, hargs, rfl, rfl, h0, r0⟩ := trodAll_cons hA
  obtain ⟨v1, vs1, d1, ds1, p1, q1, rfl, rfl, rfl, h1, r1⟩ := trodAll_cons r0
  obtain ⟨rfl, rfl, rfl⟩ := trodAll_nil r1
  obtain rfl : args = #[v0, v1] := by cases args; simp_all
  obtain ⟨rfl, rfl⟩ := trodVars_none hV
  obtain ⟨cs0, rfl, hsz0⟩ := okWide_agg (by kernel_rfl) (hval 0 27 v0 rfl rfl)
  have k0 := h0
  have lt0 : ∀ x ∈ p0, x.block < W.heap.size := by obtain ⟨m, hm⟩ := k0; exact DataW.trod_lt m _ _ _ hm
  obtain ⟨y0_0, e0_0, x0_0, rfl, wx0_0⟩ := leaf_agg (n := 9) 0 (.int .i64) (by kernel_rfl) h0
  obtain ⟨y0_1, e0_1, x0_1, rfl, wx0_1⟩ := leaf_agg (n := 9) 1 (.int .i64) (by kernel_rfl) h0
  obtain ⟨y0_2, e0_2, x0_2, rfl, wx0_2⟩ := leaf_agg (n := 9) 2 (.int .i64) (by kernel_rfl) h0
  obtain ⟨y0_3, e0_3, x0_3, rfl, wx0_3⟩ := leaf_agg (n := 9) 3 (.int .i64) (by kernel_rfl) h0
  obtain ⟨y0_4, e0_4, x0_4, rfl, wx0_4⟩ := leaf_agg (n := 9) 4 (.int .i64) (by kernel_rfl) h0
  obtain ⟨y0_5, e0_5, x0_5, rfl, wx0_5⟩ := leaf_agg (n := 9) 5 (.int .i64) (by kernel_rfl) h0
  obtain ⟨y0_6, e0_6, x0_6, rfl, wx0_6⟩ := leaf_agg (n := 9) 6 (.int .i64) (by kernel_rfl) h0
  obtain ⟨y0_7, e0_7, x0_7, rfl, wx0_7⟩ := leaf_agg (n := 9) 7 (.int .i64) (by kernel_rfl) h0
  obtain ⟨y0_8, e0_8, x0_8, rfl, wx0_8⟩ := leaf_agg (n := 9) 8 (.int .i64) (by kernel_rfl) h0
  obtain ⟨y0_9, e0_9, x0_9, rfl, wx0_9⟩ := leaf_agg (n := 9) 9 (.int .i64) (by kernel_rfl) h0
  have sz0 : cs0.size = 10 := hsz0.trans (by kernel_rfl)
  obtain rfl : cs0 = #[.int .i64 x0_0, .int .i64 x0_1, .int .i64 x0_2, .int .i64 x0_3, .int .i64 x0_4, .int .i64 x0_5, .int .i64 x0_6, .int .i64 x0_7, .int .i64 x0_8, .int .i64 x0_9] := by
    apply Array.ext_getElem?
    intro i
    match i with
    | 0 => exact e0_0
    | 1 => exact e0_1
    | 2 => exact e0_2
    | 3 => exact e0_3
    | 4 => exact e0_4
    | 5 => exact e0_5
    | 6 => exact e0_6
    | 7 => exact e0_7
    | 8 => exact e0_8
    | 9 => exact e0_9
    | i + 10 => rw [Array.getElem?_eq_none (by omega), Array.getElem?_eq_none (by simp)]
  obtain ⟨a1, rfl, rfl, rfl, w1⟩ := open_string Tryz.underlying9 (hval 1 9 v1 rfl rfl) h1
  clear hA0 hval0
  refine (Go.Proofs.YtokghlmffkboiaaGreat.walk_RecordSeals x0_0 x0_1 x0_2 x0_3 x0_4 x0_5 x0_6 x0_7 x0_8 x0_9 a1 W wx0_0 wx0_1 wx0_2 wx0_3 wx0_4 wx0_5 wx0_6 wx0_7 wx0_8 wx0_9 w1).mono fun e W' ⟨he, bel⟩ => ?_
  subst he
  exact ⟨_, rfl, _, _, _, [], _, [], hW', trodAll_mk1 (shut_bool Tryz.underlying4 _), (trodAll_cons_mk (Below.trod laidOut (by kernel_rfl) (of_decide_eq_true (by kernel_rfl)) k0 bel lt0) (trodAll_cons_mk (shut_string Tryz.underlying9 w1) trodAll_mk0)), rfl, bel.frame _, fun h => by cases h⟩

theorem over : Rows.recordSealsRow.holds Tryz.pinned (OpenSpec.ofChange Rows.recordSealsSpec) :=
  OpenClaim.holds_of_wide 3 Tryz.f3 rfl rfl rfl rfl rfl rfl rfl ⟨rfl, rfl, rfl, rfl, rfl⟩ rfl rfl rfl rfl rfl (by kernel_rfl) Tryz.func3 (by kernel_rfl)
    (of_decide_eq_true (by kernel_rfl)) (by unfold Func.isWrapper; first | (rw [if_pos (by decide +kernel)]; kernel_rfl) | (rw [if_neg (by decide +kernel)]; exact ⟨rfl, rfl⟩))
    (fun os started H enc _ => lifted os started H enc)

/-- The statement. -/
theorem proved : Rows.RecordSealsSaid := over
#print axioms proved
end Go.Proofs.YtokghlmffkboiaaGreat.recordSeals
