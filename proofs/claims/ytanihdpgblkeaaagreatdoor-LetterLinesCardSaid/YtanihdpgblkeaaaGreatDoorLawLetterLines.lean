/-
  The statement Rows.LetterLinesCardSaid is proved: reeve/reevelaw36.LetterLines returns true for every input, and its input reads behind the call as it read before. The condition: the library's tables that the row lists hold what its initialisers lay (tied to the program's text by the card).
-/
import Derived.Test.YtanihdpgblkeaaaGreatDoorRows
import Derived.Test.YtanihdpgblkeaaaGreatDoorCards
import Derived.Test.YtanihdpgblkeaaaGreatDoorTie
import Derived.Test.YtanihdpgblkeaaaGreatDoorLetterLinesWalk
import Derived.Test.YtanihdpgblkeaaaGreatDoorFlat
import Derived.WalkKit
import Derived.ProofKit
import Derived.OpenShut
import Derived.ShutString
import Derived.SliceStrings
import Derived.ChangeOld
import Derived.Below
import Derived.LaidMore
import Derived.Lay
import Derived.SevenTiedAt
import Derived.Stop.Joined
namespace Go.Proofs.YtanihdpgblkeaaaGreatDoor.letterLines
open Go.ChangeShapes Go.WideShapes Go.ChangeAt Go.RowKit
open Go.ChangeMaps (open_string shut_string)
set_option linter.unusedVariables false
set_option linter.unusedSimpArgs false

theorem own : ownKnob Tryz.prog.godebug = none := by kernel_rfl
theorem laidOut : laidOutB Tryz.prog = true := by kernel_rfl

set_option maxRecDepth 100000 in
theorem lifted (os : Os) (started : os.Started) (H : Type) (enc : TypeId × Value → H) :
    ReturnsInHanded {} Tryz.checked os 3 .any (fun w args => (Rows.letterLinesSpec.pre enc Tryz.prog Tryz.f3 Rows.letterLinesRow.domain false w args ∧ laidMetH Tryz.prog Rows.letterLinesRow.laid w) ∧ sizedMet enc Tryz.prog Tryz.f3 (OpenSpec.ofChange Rows.letterLinesSpec) false w args) (Rows.letterLinesSpec.post enc Tryz.prog Tryz.f3 false true false false) := by
  refine returnsInHanded_of_change_and (C := Tryz.checked) (X := fun w _ => laidMetH Tryz.prog Rows.letterLinesRow.laid w) (fun _ _ _ hh h => h.of_heap hh) own started (by kernel_rfl) Tryz.func3
    (ChangeSpec.witness_shaped (enc := enc) (C := Tryz.checked) (os := os) (X := fun w _ => laidMetH Tryz.prog Rows.letterLinesRow.laid w) false (World.laidAll Tryz.prog os Rows.letterLinesRow.laid) #[.agg #[.int .i64 0, .int .i64 0, .int .i64 0, .int .i64 0, .int .i64 0, .int .i64 0, .int .i64 0, .int .i64 0, .int .i64 0, .int .i64 0, .int .i64 0, .int .i64 0], .string ByteArray.empty, .int .i64 0] 8 (World.laidAll_os _ _ _)
      (World.shaped_of_ZipB (by kernel_rfl) (by kernel_rfl)) (by kernel_rfl) (by kernel_rfl) (by kernel_rfl)
      (by rw [MakeChecks.laidMetH_plain _ _ _ (by kernel_rfl)]; exact laidMet_laidAll _ (by kernel_rfl) (by kernel_rfl))) ?_
  intro W base args ds gs before hval0 hW hcnd _ hL _
  have hval : ∀ (j : Nat) t v, Tryz.f3.params[j]? = some t → args[j]? = some v → Value.okWide Tryz.prog W .any base t v := hval0
  have hW' := hW
  obtain ⟨p, q, hA0, hV, rfl, hfz, hnd⟩ := hW
  have hA : DataW.TrodAll enc Tryz.prog W 0 (fun _ => true) true Tryz.f3.params.toList args.toList ds p := hA0
  rw [Tryz.params3] at hA hval
  obtain ⟨v0, vs0, d0, ds0, p0, q0, hargs, rfl, rfl, h0, r0⟩ := trodAll_cons hA
  obtain ⟨v1, vs1, d1, ds1, p1, q1, rfl, rfl, rfl, h1, r1⟩ := trodAll_cons r0
  obtain ⟨v2, vs2, d2, ds2, p2, q2, rfl, rfl, rfl, h2, r2⟩ := trodAll_cons r1
  obtain ⟨rfl, rfl, rfl⟩ := trodAll_nil r2
  obtain rfl : args = #[v0, v1, v2] := by cases args; simp_all
  obtain ⟨rfl, rfl⟩ := trodVars_none hV
  obtain ⟨cs0, rfl, hsz0⟩ := okWide_agg (by kernel_rfl) (hval 0 25 v0 rfl rfl)
  have k0 := h0
  have lt0 : ∀ x ∈ p0, x.block < W.heap.size := by obtain ⟨m, hm⟩ := k0; exact DataW.trod_lt m _ _ _ hm
  obtain ⟨y0_0, e0_0, x0_0, rfl, wx0_0⟩ := leaf_agg (n := 9) 0 (.int .i64) (by kernel_rfl) h0
  obtain ⟨y0_1, e0_1, x0_1, rfl, wx0_1⟩ := leaf_agg (n := 9) 1 (.int .i64) (by kernel_rfl) h0
  obtain ⟨y0_2, e0_2, x0_2, rfl, wx0_2⟩ := leaf_agg (n := 9) 2 (.int .i64) (by kernel_rfl) h0
  obtain ⟨y0_3, e0_3, x0_3, rfl, wx0_3⟩ := leaf_agg (n := 9) 3 (.int .i64) (by kernel_rfl) h0
  obtain ⟨y0_4, e0_4, x0_4, rfl, wx0_4⟩ := leaf_agg (n := 9) 4 (.int .i64) (by kernel_rfl) h0
  obtain ⟨y0_5, e0_5, x0_5, rfl, wx0_5⟩ := leaf_agg (n := 9) 5 (.int .i64) (by kernel_rfl) h0
  obtain ⟨y0_6, e0_6, x0_6, rfl, wx0_6⟩ := leaf_agg (n := 9) 6 (.int .i64) (by kernel_rfl) h0
  obtain ⟨y0_7, e0_7, x0_7, rfl, wx0_7⟩ := leaf_agg (n := 9) 7 (.int .i64) (by kernel_rfl) h0
  obtain ⟨y0_8, e0_8, x0_8, rfl, wx0_8⟩ := leaf_agg (n := 9) 8 (.int .i64) (by kernel_rfl) h0
  obtain ⟨y0_9, e0_9, x0_9, rfl, wx0_9⟩ := leaf_agg (n := 9) 9 (.int .i64) (by kernel_rfl) h0
  obtain ⟨y0_10, e0_10, x0_10, rfl, wx0_10⟩ := leaf_agg (n := 9) 10 (.int .i64) (by kernel_rfl) h0
  obtain ⟨y0_11, e0_11, x0_11, rfl, wx0_11⟩ := leaf_agg (n := 9) 11 (.int .i64) (by kernel_rfl) h0
  have sz0 : cs0.size = 12 := hsz0.trans (by kernel_rfl)
  obtain rfl : cs0 = #[.int .i64 x0_0, .int .i64 x0_1, .int .i64 x0_2, .int .i64 x0_3, .int .i64 x0_4, .int .i64 x0_5, .int .i64 x0_6, .int .i64 x0_7, .int .i64 x0_8, .int .i64 x0_9, .int .i64 x0_10, .int .i64 x0_11] := by
    apply Array.ext_getElem?
    intro i
    match i with
    | 0 => exact e0_0
    | 1 => exact e0_1
    | 2 => exact e0_2
    | 3 => exact e0_3
    | 4 => exact e0_4
    | 5 => exact e0_5
    | 6 => exact e0_6
    | 7 => exact e0_7
    | 8 => exact e0_8
    | 9 => exact e0_9
    | 10 => exact e0_10
    | 11 => exact e0_11
    | i + 12 => rw [Array.getElem?_eq_none (by omega), Array.getElem?_eq_none (by simp)]
  obtain ⟨a1, rfl, rfl, rfl, w1⟩ := open_string Tryz.underlying9 (hval 1 9 v1 rfl rfl) h1
  obtain ⟨a2, rfl, rfl, rfl, w2⟩ := open_int Tryz.underlying3 (hval 2 3 v2 rfl rfl) h2
  clear hA0 hval0
  refine (Go.Proofs.YtanihdpgblkeaaaGreatDoor.walk_LetterLines x0_0 x0_1 x0_2 x0_3 x0_4 x0_5 x0_6 x0_7 x0_8 x0_9 x0_10 x0_11 a1 a2 W wx0_0 wx0_1 wx0_2 wx0_3 wx0_4 wx0_5 wx0_6 wx0_7 wx0_8 wx0_9 wx0_10 wx0_11 w1 w2 hL).mono fun e W' ⟨he, bel⟩ => ?_
  subst he
  exact ⟨_, rfl, _, _, _, [], _, [], hW', trodAll_mk1 (shut_bool Tryz.underlying4 _), (trodAll_cons_mk (Below.trod laidOut (by kernel_rfl) (of_decide_eq_true (by kernel_rfl)) k0 bel lt0) (trodAll_cons_mk (shut_string Tryz.underlying9 w1) (trodAll_cons_mk (shut_int Tryz.underlying3 w2) trodAll_mk0))), rfl, bel.frame _, fun h => by cases h⟩

theorem over : Rows.letterLinesRow.holds Tryz.pinned (OpenSpec.ofChange Rows.letterLinesSpec) :=
  OpenClaim.holds_of_wide 3 Tryz.f3 rfl rfl rfl rfl rfl rfl rfl ⟨rfl, rfl, rfl, rfl, rfl⟩ rfl rfl rfl rfl rfl (by kernel_rfl) Tryz.func3 (by kernel_rfl)
    (of_decide_eq_true (by kernel_rfl)) (by unfold Func.isWrapper; first | (rw [if_pos (by decide +kernel)]; kernel_rfl) | (rw [if_neg (by decide +kernel)]; exact ⟨rfl, rfl⟩))
    (fun os started H enc _ => lifted os started H enc)

/-- The statement. -/
theorem proved : Rows.LetterLinesCardSaid :=
  Claim7.holds_tied_plain_at .later [] [.data, .data, .data, .sentinel, .sentinel, .data, .widerDeep] true (true, "0e14e8a0af3d894e83e1dca8944ce73ff3b6a8baeb1585702b3a4c92cb78d3fe") true over (fun _ h => by cases h) (by kernel_rfl) (fun _ h => by cases h) letterLines_row_tie rfl ⟨rfl, rfl⟩ (by kernel_rfl) rfl
    (fun f fn hf hfn => by
      obtain rfl : f = 3 := Option.some.inj ((show Tryz.prog.funcNamed "reeve/reevelaw36.LetterLines" = some 3 by kernel_rfl).symm.trans hf) |>.symm
      obtain rfl : fn = Tryz.f3 := (Option.some.inj (Tryz.func3.symm.trans hfn)).symm
      exact ⟨by kernel_rfl, fun j t ht => by
        rw [Tryz.params3] at ht
        have hm : t ∈ [25, 9, 3] := by simpa using Array.mem_of_getElem? ht
        have hall : ([25, 9, 3].all fun u => !Tryz.prog.wantsStandIn u) = true := by kernel_rfl
        exact (show Tryz.prog.wantsStandIn t = false by simpa using List.all_eq_true.1 hall t hm)⟩)
    (by kernel_rfl)
#print axioms proved
end Go.Proofs.YtanihdpgblkeaaaGreatDoor.letterLines
