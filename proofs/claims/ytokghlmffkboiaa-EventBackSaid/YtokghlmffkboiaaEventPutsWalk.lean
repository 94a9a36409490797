/-
  The walk of the statement EventPuts.
-/
import Derived.Test.YtokghlmffkboiaaAwake18
namespace Go.Proofs.Ytokghlmffkboiaa
open Go.RowKit
set_option linter.unusedVariables false
set_option linter.unusedSimpArgs false

theorem wf_eight {k n j i p x y z : Int} (h0 : (Lit.int .i64 k).wf = true) (h1 : (Lit.int .i64 n).wf = true) (h2 : (Lit.int .i64 j).wf = true) (h3 : (Lit.int .i64 i).wf = true) (h4 : (Lit.int .i64 p).wf = true) (h5 : (Lit.int .i64 x).wf = true) (h6 : (Lit.int .i64 y).wf = true) (h7 : (Lit.int .i64 z).wf = true) : wfI [k, n, j, i, p, x, y, z] := by
  intro a ha
  simp at ha
  rcases ha with rfl | rfl | rfl | rfl | rfl | rfl | rfl | rfl <;> assumption
set_option maxRecDepth 100000 in
set_option maxHeartbeats 3200000 in
theorem walk_EventPuts (k n j i p x y z : Int) (w : World) (h0 : (Lit.int .i64 k).wf = true) (h1 : (Lit.int .i64 n).wf = true) (h2 : (Lit.int .i64 j).wf = true) (h3 : (Lit.int .i64 i).wf = true) (h4 : (Lit.int .i64 p).wf = true) (h5 : (Lit.int .i64 x).wf = true) (h6 : (Lit.int .i64 y).wf = true) (h7 : (Lit.int .i64 z).wf = true) :
    Calls Try.prog 3 #[.agg #[.int .i64 k, .int .i64 n, .int .i64 j, .int .i64 i, .int .i64 p, .int .i64 x, .int .i64 y, .int .i64 z]] w fun e w' => e = .returned (.bool true) ∧ Below w.heap.size w w' := by
  have hu := Try.underlying25
  have hwf : wfI [k, n, j, i, p, x, y, z] := wf_eight h0 h1 h2 h3 h4 h5 h6 h7
  have hP := event_put [k, n, j, i, p, x, y, z] rfl hwf
  have hR := ref18_put [k, n, j, i, p, x, y, z] rfl hwf
  have hC := event_check [k, n, j, i, p, x, y, z] rfl
  have hD := ref18_check [k, n, j, i, p, x, y, z] rfl
  have hU := event_pure [k, n, j, i, p, x, y, z] rfl
  have hV := ref18_pure [k, n, j, i, p, x, y, z] rfl
  have hq := eql_event (pureL [k, n, j, i, p, x, y, z]) (pureL [k, n, j, i, p, x, y, z]) (pureL_length _) (pureL_length _)
  rw [decide_eq_true (rfl : pureL [k, n, j, i, p, x, y, z] = pureL [k, n, j, i, p, x, y, z])] at hq
  have a1 : cellsI [k, n, j, i, p, x, y, z] = #[.int .i64 k, .int .i64 n, .int .i64 j, .int .i64 i, .int .i64 p, .int .i64 x, .int .i64 y, .int .i64 z] := rfl
  rw [a1] at hP hR hC hD hU hV
  clear a1 h0 h1 h2 h3 h4 h5 h6 h7 hwf
  generalize putS [k, n, j, i, p, x, y, z] = PS at hP hR
  generalize checkL [k, n, j, i, p, x, y, z] = CK at hP hR hC hD
  generalize cellsI (pureL [k, n, j, i, p, x, y, z]) = PC at hU hV hq
  have HP := Lib.hid hP
  have HR := Lib.hid hR
  have HC := Lib.hid hC
  have HD := Lib.hid hD
  have HU := Lib.hid hU
  have HV := Lib.hid hV
  have HQ := Lib.hid hq
  clear hP hR hC hD hU hV hq
  obtain ⟨W, hW⟩ : ∃ W, w.alloc (.cells #[.int .i64 k, .int .i64 n, .int .i64 j, .int .i64 i, .int .i64 p, .int .i64 x, .int .i64 y, .int .i64 z] 25) = W := ⟨_, rfl⟩
  have HB : Hid (Blk W w.heap.size #[.int .i64 k, .int .i64 n, .int .i64 j, .int .i64 i, .int .i64 p, .int .i64 x, .int .i64 y, .int .i64 z] 25) := Lib.hid (by rw [← hW]; exact Blk.new w _ _)
  have HL : Hid (Below w.heap.size w W) := Lib.hid (by rw [← hW]; exact (Below.refl w.heap.size w).alloc (Nat.le_refl _) _)
  have HW := Lib.hid hW
  clear hW
  go_enter Try.func3, Try.ntmps3
  go_upto_region 1 with fail
  rw [HW.out]
  clear HW
  go_wp2_with (with_reducible refine ev_load rfl 25 (.tmp 1) rfl w.heap.size rfl 25 #[.int .i64 k, .int .i64 n, .int .i64 j, .int .i64 i, .int .i64 p, .int .i64 x, .int .i64 y, .int .i64 z] _ HB.out hu rfl (by kernel_rfl) ?_)
  refine (HP.out _).mono ?_
  rintro e w1 ⟨rfl, hb1⟩
  have HB1 := Lib.hid (HB.out.below hb1 HB.out.lt)
  have HL1 := Lib.hid (HL.out.trans (hb1.mono HL.out.size))
  clear hb1 HB HL
  go_wp2_with (with_reducible refine ev_load rfl 25 (.tmp 1) rfl w.heap.size rfl 25 #[.int .i64 k, .int .i64 n, .int .i64 j, .int .i64 i, .int .i64 p, .int .i64 x, .int .i64 y, .int .i64 z] _ HB1.out hu rfl (by kernel_rfl) ?_)
  refine (HR.out _).mono ?_
  rintro e w2 ⟨rfl, hb2⟩
  have HB2 := Lib.hid (HB1.out.below hb2 HB1.out.lt)
  have HL2 := Lib.hid (HL1.out.trans (hb2.mono HL1.out.size))
  clear hb2 HB1 HL1 HP HR
  have d0 := HB2.out.cell (i := 0) rfl
  have d1 := HB2.out.cell (i := 1) rfl
  have d2 := HB2.out.cell (i := 2) rfl
  have d3 := HB2.out.cell (i := 3) rfl
  have d4 := HB2.out.cell (i := 4) rfl
  have d5 := HB2.out.cell (i := 5) rfl
  have d6 := HB2.out.cell (i := 6) rfl
  have d7 := HB2.out.cell (i := 7) rfl
  have hlt := HB2.out.lt
  go_upto_region 3 with fail
  have hq := HQ.out
  go_region_held3 (fun w' => w'.cell? ⟨w.heap.size, 0, none⟩ = some (.int .i64 k) ∧ w'.cell? ⟨w.heap.size, 1, none⟩ = some (.int .i64 n) ∧ w'.cell? ⟨w.heap.size, 2, none⟩ = some (.int .i64 j) ∧ w'.cell? ⟨w.heap.size, 3, none⟩ = some (.int .i64 i) ∧ w'.cell? ⟨w.heap.size, 4, none⟩ = some (.int .i64 p) ∧ w'.cell? ⟨w.heap.size, 5, none⟩ = some (.int .i64 x) ∧ w'.cell? ⟨w.heap.size, 6, none⟩ = some (.int .i64 y) ∧ w'.cell? ⟨w.heap.size, 7, none⟩ = some (.int .i64 z))
    (first | (go_keep; done) | exact ⟨keepB hwg d0 hlt, keepB hwg d1 hlt, keepB hwg d2 hlt, keepB hwg d3 hlt, keepB hwg d4 hlt, keepB hwg d5 hlt, keepB hwg d6 hlt, keepB hwg d7 hlt⟩ | exact ⟨keepB hwf d0 hlt, keepB hwf d1 hlt, keepB hwf d2 hlt, keepB hwf d3 hlt, keepB hwf d4 hlt, keepB hwf d5 hlt, keepB hwf d6 hlt, keepB hwf d7 hlt⟩ | exact ⟨keepB hwe d0 hlt, keepB hwe d1 hlt, keepB hwe d2 hlt, keepB hwe d3 hlt, keepB hwe d4 hlt, keepB hwe d5 hlt, keepB hwe d6 hlt, keepB hwe d7 hlt⟩ | exact ⟨keepB hwd d0 hlt, keepB hwd d1 hlt, keepB hwd d2 hlt, keepB hwd d3 hlt, keepB hwd d4 hlt, keepB hwd d5 hlt, keepB hwd d6 hlt, keepB hwd d7 hlt⟩ | exact ⟨keepB hwc d0 hlt, keepB hwc d1 hlt, keepB hwc d2 hlt, keepB hwc d3 hlt, keepB hwc d4 hlt, keepB hwc d5 hlt, keepB hwc d6 hlt, keepB hwc d7 hlt⟩)
    (first
      | (go_at_call 9; refine (HC.out _).mono ?_; rintro e wc ⟨rfl, hb⟩; have hwc : Below w2.heap.size w2 wc := ⟨hb.os, hb.tape, hb.output, hb.size, hb.block⟩; clear hb)
      | (go_at_call 10; refine (HD.out _).mono ?_; rintro e wd ⟨rfl, hb⟩; have hwd : Below w2.heap.size w2 wd := hwc.trans (Below.mono (by exact ⟨hb.os, hb.tape, hb.output, hb.size, hb.block⟩) hwc.size); clear hb)
      | (go_at_call 11; refine (HU.out _).mono ?_; rintro e we ⟨rfl, hb⟩; have hwe : Below w2.heap.size w2 we := hwd.trans (Below.mono (by exact ⟨hb.os, hb.tape, hb.output, hb.size, hb.block⟩) hwd.size); clear hb)
      | (go_at_call 12; refine (HV.out _).mono ?_; rintro e wf ⟨rfl, hb⟩; have hwf : Below w2.heap.size w2 wf := hwe.trans (Below.mono (by exact ⟨hb.os, hb.tape, hb.output, hb.size, hb.block⟩) hwe.size); clear hb)
      | (go_at_call 13; refine (awake18 _).mono ?_; rintro e wg ⟨rfl, hb⟩; have hwg : Below w2.heap.size w2 wg := hwf.trans (Below.mono (by exact ⟨hb.os, hb.tape, hb.output, hb.size, hb.block⟩) hwf.size); clear hb))
  have HL9 := Lib.hid (HL2.out.trans (hwg.mono HL2.out.size))
  go_wp2_with fail
  go_ret
  exact ⟨rfl, HL9.out⟩
end Go.Proofs.Ytokghlmffkboiaa
