/-
  The statement Rows.PhraseLinesCardSaid is proved: reeve/reevelaw19.PhraseLines returns true for every input, and its input reads behind the call as it read before. The condition: the library's tables that the row lists hold what its initialisers lay (tied to the program's text by the card).
-/
import Derived.Test.YtanihdpgblkeaaaDoorRows
import Derived.Test.YtanihdpgblkeaaaDoorCards
import Derived.Test.YtanihdpgblkeaaaDoorTie
import Derived.Test.YtanihdpgblkeaaaDoorPhraseLinesWalk
import Derived.Test.YtanihdpgblkeaaaDoorFlat
import Derived.WalkKit
import Derived.ProofKit
import Derived.OpenShut
import Derived.ShutString
import Derived.SliceStrings
import Derived.ChangeOld
import Derived.Below
import Derived.LaidMore
import Derived.Lay
import Derived.SevenTiedAt
import Derived.Stop.Joined
namespace Go.Proofs.YtanihdpgblkeaaaDoor.phraseLines
open Go.ChangeShapes Go.WideShapes Go.ChangeAt Go.RowKit
open Go.ChangeMaps (open_string shut_string)
set_option linter.unusedVariables false
set_option linter.unusedSimpArgs false

theorem own : ownKnob Tryd.prog.godebug = none := by kernel_rfl
theorem laidOut : laidOutB Tryd.prog = true := by kernel_rfl

set_option maxRecDepth 100000 in
theorem lifted (os : Os) (started : os.Started) (H : Type) (enc : TypeId × Value → H) :
    ReturnsInHanded {} Tryd.checked os 3 .any (fun w args => (Rows.phraseLinesSpec.pre enc Tryd.prog Tryd.f3 Rows.phraseLinesRow.domain false w args ∧ laidMetH Tryd.prog Rows.phraseLinesRow.laid w) ∧ sizedMet enc Tryd.prog Tryd.f3 (OpenSpec.ofChange Rows.phraseLinesSpec) false w args) (Rows.phraseLinesSpec.post enc Tryd.prog Tryd.f3 false true false false) := by
  refine returnsInHanded_of_change_and (C := Tryd.checked) (X := fun w _ => laidMetH Tryd.prog Rows.phraseLinesRow.laid w) (fun _ _ _ hh h => h.of_heap hh) own started (by kernel_rfl) Tryd.func3
    (ChangeSpec.witness_shaped (enc := enc) (C := Tryd.checked) (os := os) (X := fun w _ => laidMetH Tryd.prog Rows.phraseLinesRow.laid w) false (World.laidAll Tryd.prog os Rows.phraseLinesRow.laid) #[.agg #[.int .i64 0, .int .i64 0, .int .i64 0, .int .i64 0, .int .i64 0, .int .i64 0, .int .i64 0, .int .i64 0], .string ByteArray.empty, .int .i64 0] 8 (World.laidAll_os _ _ _)
      (World.shaped_of_ZipB (by kernel_rfl) (by kernel_rfl)) (by kernel_rfl) (by kernel_rfl) (by kernel_rfl)
      (by rw [MakeChecks.laidMetH_plain _ _ _ (by kernel_rfl)]; exact laidMet_laidAll _ (by kernel_rfl) (by kernel_rfl))) ?_
  intro W base args ds gs before hval0 hW hcnd _ hL _
  have hval : ∀ (j : Nat) t v, Tryd.f3.params[j]? = some t → args[j]? = some v → Value.okWide Tryd.prog W .any base t v := hval0
  have hW' := hW
  obtain ⟨p, q, hA0, hV, rfl, hfz, hnd⟩ := hW
  have hA : DataW.TrodAll enc Tryd.prog W 0 (fun _ => true) true Tryd.f3.params.toList args.toList ds p := hA0
  rw [Tryd.params3] at hA hval
  obtain ⟨v0, vs0, d0, ds0, p0, q0, hargs, rfl, rfl, h0, r0⟩ := trodAll_cons hA
  obtain ⟨v1, vs1, d1, ds1, p1, q1, rfl, rfl, rfl, h1, r1⟩ := trodAll_cons r0
  obtain ⟨v2, vs2, d2, ds2, p2, q2, rfl, rfl, rfl, h2, r2⟩ := trodAll_cons r1
  obtain ⟨rfl, rfl, rfl⟩ := trodAll_nil r2
  obtain rfl : args = #[v0, v1, v2] := by cases args; simp_all
  obtain ⟨rfl, rfl⟩ := trodVars_none hV
  obtain ⟨cs0, rfl, hsz0⟩ := okWide_agg (by kernel_rfl) (hval 0 25 v0 rfl rfl)
  have k0 := h0
  have lt0 : ∀ x ∈ p0, x.block < W.heap.size := by obtain ⟨m, hm⟩ := k0; exact DataW.trod_lt m _ _ _ hm
  obtain ⟨y0_0, e0_0, x0_0, rfl, wx0_0⟩ := leaf_agg (n := 9) 0 (.int .i64) (by kernel_rfl) h0
  obtain ⟨y0_1, e0_1, x0_1, rfl, wx0_1⟩ := leaf_agg (n := 9) 1 (.int .i64) (by kernel_rfl) h0
  obtain ⟨y0_2, e0_2, x0_2, rfl, wx0_2⟩ := leaf_agg (n := 9) 2 (.int .i64) (by kernel_rfl) h0
  obtain ⟨y0_3, e0_3, x0_3, rfl, wx0_3⟩ := leaf_agg (n := 9) 3 (.int .i64) (by kernel_rfl) h0
  obtain ⟨y0_4, e0_4, x0_4, rfl, wx0_4⟩ := leaf_agg (n := 9) 4 (.int .i64) (by kernel_rfl) h0
  obtain ⟨y0_5, e0_5, x0_5, rfl, wx0_5⟩ := leaf_agg (n := 9) 5 (.int .i64) (by kernel_rfl) h0
  obtain ⟨y0_6, e0_6, x0_6, rfl, wx0_6⟩ := leaf_agg (n := 9) 6 (.int .i64) (by kernel_rfl) h0
  obtain ⟨y0_7, e0_7, x0_7, rfl, wx0_7⟩ := leaf_agg (n := 9) 7 (.int .i64) (by kernel_rfl) h0
  have sz0 : cs0.size = 8 := hsz0.trans (by kernel_rfl)
  obtain rfl : cs0 = #[.int .i64 x0_0, .int .i64 x0_1, .int .i64 x0_2, .int .i64 x0_3, .int .i64 x0_4, .int .i64 x0_5, .int .i64 x0_6, .int .i64 x0_7] := by
    apply Array.ext_getElem?
    intro i
    match i with
    | 0 => exact e0_0
    | 1 => exact e0_1
    | 2 => exact e0_2
    | 3 => exact e0_3
    | 4 => exact e0_4
    | 5 => exact e0_5
    | 6 => exact e0_6
    | 7 => exact e0_7
    | i + 8 => rw [Array.getElem?_eq_none (by omega), Array.getElem?_eq_none (by simp)]
  obtain ⟨a1, rfl, rfl, rfl, w1⟩ := open_string Tryd.underlying9 (hval 1 9 v1 rfl rfl) h1
  obtain ⟨a2, rfl, rfl, rfl, w2⟩ := open_int Tryd.underlying3 (hval 2 3 v2 rfl rfl) h2
  clear hA0 hval0
  refine (Go.Proofs.YtanihdpgblkeaaaDoor.walk_PhraseLines x0_0 x0_1 x0_2 x0_3 x0_4 x0_5 x0_6 x0_7 a1 a2 W wx0_0 wx0_1 wx0_2 wx0_3 wx0_4 wx0_5 wx0_6 wx0_7 w1 w2 hL).mono fun e W' ⟨he, bel⟩ => ?_
  subst he
  exact ⟨_, rfl, _, _, _, [], _, [], hW', trodAll_mk1 (shut_bool Tryd.underlying4 _), (trodAll_cons_mk (Below.trod laidOut (by kernel_rfl) (of_decide_eq_true (by kernel_rfl)) k0 bel lt0) (trodAll_cons_mk (shut_string Tryd.underlying9 w1) (trodAll_cons_mk (shut_int Tryd.underlying3 w2) trodAll_mk0))), rfl, bel.frame _, fun h => by cases h⟩

theorem over : Rows.phraseLinesRow.holds Tryd.pinned (OpenSpec.ofChange Rows.phraseLinesSpec) :=
  OpenClaim.holds_of_wide 3 Tryd.f3 rfl rfl rfl rfl rfl rfl rfl ⟨rfl, rfl, rfl, rfl, rfl⟩ rfl rfl rfl rfl rfl (by kernel_rfl) Tryd.func3 (by kernel_rfl)
    (of_decide_eq_true (by kernel_rfl)) (by unfold Func.isWrapper; first | (rw [if_pos (by decide +kernel)]; kernel_rfl) | (rw [if_neg (by decide +kernel)]; exact ⟨rfl, rfl⟩))
    (fun os started H enc _ => lifted os started H enc)

/-- The statement. -/
theorem proved : Rows.PhraseLinesCardSaid :=
  Claim7.holds_tied_plain_at .later [] [.data, .data, .data, .sentinel, .sentinel, .widerDeep] true (true, "6a07e1b09581e26af6f01c3c58e8e9f6cb1083161af084bd0982f274b2b6b465") true over (fun _ h => by cases h) (by kernel_rfl) (fun _ h => by cases h) phraseLines_row_tie rfl ⟨rfl, rfl⟩ (by kernel_rfl) rfl
    (fun f fn hf hfn => by
      obtain rfl : f = 3 := Option.some.inj ((show Tryd.prog.funcNamed "reeve/reevelaw19.PhraseLines" = some 3 by kernel_rfl).symm.trans hf) |>.symm
      obtain rfl : fn = Tryd.f3 := (Option.some.inj (Tryd.func3.symm.trans hfn)).symm
      exact ⟨by kernel_rfl, fun j t ht => by
        rw [Tryd.params3] at ht
        have hm : t ∈ [25, 9, 3] := by simpa using Array.mem_of_getElem? ht
        have hall : ([25, 9, 3].all fun u => !Tryd.prog.wantsStandIn u) = true := by kernel_rfl
        exact (show Tryd.prog.wantsStandIn t = false by simpa using List.all_eq_true.1 hall t hm)⟩)
    (by kernel_rfl)
#print axioms proved
end Go.Proofs.YtanihdpgblkeaaaDoor.phraseLines
