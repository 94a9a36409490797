/-
  The walk of the statement RecordSeals.
-/
import Derived.Test.YtokghlmffkboiaaGreatAwake20
import Derived.Test.YtokghlmffkboiaaGreatRecRef
import Derived.Test.YtokghlmffkboiaaGreatFlat
namespace Go.Proofs.YtokghlmffkboiaaGreat
open Go.RowKit
set_option linter.unusedVariables false
set_option linter.unusedSimpArgs false

set_option maxRecDepth 100000 in
set_option maxHeartbeats 6400000 in
theorem walk_rs (r : List Int) (hr : r.length = 10) (hwf : wfI r) (s : ByteArray) (w : World) (hs : s.size ≤ maxLen) :
    Calls Tryz.prog 3 #[.agg (cellsI r), .string s] w fun e w' => e = .returned (.bool true) ∧ Below w.heap.size w w' := by
  have hu := Tryz.underlying27
  have hs63 : s.size ≤ 9223372036854775807 := by unfold maxLen at hs; omega
  have A20 := Lib.hid awake20
  by_cases hbig : 300 < s.size
  · have hbI : (300 : Int) < (s.size : Int) := by omega
    obtain ⟨q, t, k, n, j, i, p, x, y, z, rfl⟩ := ten_of hr
    have a1 : cellsI [q, t, k, n, j, i, p, x, y, z] = #[.int .i64 q, .int .i64 t, .int .i64 k, .int .i64 n, .int .i64 j, .int .i64 i, .int .i64 p, .int .i64 x, .int .i64 y, .int .i64 z] := rfl
    rw [a1]
    clear a1 hbig hr hwf
    go_enter Tryz.func3, Tryz.ntmps3
    go_wp2_with fail
    refine (A20.out _).mono ?_
    rintro e w1 ⟨rfl, hb1⟩
    have hb2 := ((Below.refl w.heap.size w).alloc (Nat.le_refl _) _).trans (hb1.mono (by simp))
    go_wp2_with fail
    go_ret
    exact ⟨rfl, hb2⟩
  have hbI : (s.size : Int) ≤ 300 := by omega
  have S1 := rec_seal r hr hwf
  have S2 := ref20_seal r hr hwf
  have C1 := rec_check r hr
  have C2 := ref20_check r hr
  have O1 := rec_open s hs
  have O2 := ref20_open s hs
  have hq := eql_rec (openR s).1 (openR s).1 (openR_len s) (openR_len s)
  rw [decide_eq_true (rfl : (openR s).1 = (openR s).1)] at hq
  obtain ⟨o0, o1, o2, o3, o4, o5, o6, o7, o8, o9, ho⟩ := ten_of (openR_len s)
  obtain ⟨q, t, k, n, j, i, p, x, y, z, rfl⟩ := ten_of hr
  rw [ho] at O1 O2 hq
  have a1 : cellsI [q, t, k, n, j, i, p, x, y, z] = #[.int .i64 q, .int .i64 t, .int .i64 k, .int .i64 n, .int .i64 j, .int .i64 i, .int .i64 p, .int .i64 x, .int .i64 y, .int .i64 z] := rfl
  have a2 : cellsI [o0, o1, o2, o3, o4, o5, o6, o7, o8, o9] = #[.int .i64 o0, .int .i64 o1, .int .i64 o2, .int .i64 o3, .int .i64 o4, .int .i64 o5, .int .i64 o6, .int .i64 o7, .int .i64 o8, .int .i64 o9] := rfl
  rw [a1] at S1 S2 C1 C2 ⊢
  rw [a2] at O1 O2 hq
  clear a1 a2 ho hr hwf hbig hs
  generalize (openR s).2.1 = N at O1 O2
  generalize (openR s).2.2 = E at O1 O2
  generalize (sealR [q, t, k, n, j, i, p, x, y, z]).1 = SB at S1 S2
  generalize (sealR [q, t, k, n, j, i, p, x, y, z]).2 = SE at S1 S2
  generalize recCheck [q, t, k, n, j, i, p, x, y, z] = RC at C1 C2
  have S1 := Lib.hid S1
  have S2 := Lib.hid S2
  have C1 := Lib.hid C1
  have C2 := Lib.hid C2
  have O1 := Lib.hid O1
  have O2 := Lib.hid O2
  have HQ := Lib.hid hq
  clear hq
  obtain ⟨W, hW⟩ : ∃ W, w.alloc (.cells #[.int .i64 q, .int .i64 t, .int .i64 k, .int .i64 n, .int .i64 j, .int .i64 i, .int .i64 p, .int .i64 x, .int .i64 y, .int .i64 z] 27) = W := ⟨_, rfl⟩
  obtain ⟨b, hb⟩ : ∃ b, w.heap.size = b := ⟨_, rfl⟩
  have HB : Hid (Blk W b #[.int .i64 q, .int .i64 t, .int .i64 k, .int .i64 n, .int .i64 j, .int .i64 i, .int .i64 p, .int .i64 x, .int .i64 y, .int .i64 z] 27) := Lib.hid (by rw [← hW, ← hb]; exact Blk.new w _ _)
  have HL : Hid (Below b w W) := Lib.hid (by rw [← hW, ← hb]; exact (Below.refl w.heap.size w).alloc (Nat.le_refl _) _)
  have HW := Lib.hid hW
  rw [hb]
  clear hW
  go_enter Tryz.func3, Tryz.ntmps3
  go_upto_region 1 with fail
  rw [HW.out]
  try rw [hb]
  clear HW
  go_wp2_with (with_reducible refine ev_load rfl 27 (.tmp 2) rfl b rfl 27 #[.int .i64 q, .int .i64 t, .int .i64 k, .int .i64 n, .int .i64 j, .int .i64 i, .int .i64 p, .int .i64 x, .int .i64 y, .int .i64 z] _ HB.out hu rfl (by kernel_rfl) ?_)
  refine (S1.out _).mono ?_
  rintro e w1 ⟨rfl, hb1⟩
  have HB1 := Lib.hid (HB.out.below hb1 HB.out.lt)
  have HL1 := Lib.hid (HL.out.trans (hb1.mono (by have := HL.out.size; omega)))
  clear hb1 HB HL S1
  go_wp2_with (with_reducible refine ev_load rfl 27 (.tmp 2) rfl b rfl 27 #[.int .i64 q, .int .i64 t, .int .i64 k, .int .i64 n, .int .i64 j, .int .i64 i, .int .i64 p, .int .i64 x, .int .i64 y, .int .i64 z] _ HB1.out hu rfl (by kernel_rfl) ?_)
  refine (S2.out _).mono ?_
  rintro e w2 ⟨rfl, hb2⟩
  have HB2 := Lib.hid (HB1.out.below hb2 HB1.out.lt)
  have HL2 := Lib.hid (HL1.out.trans (hb2.mono (by have := HL1.out.size; omega)))
  clear hb2 HB1 HL1 S2
  go_wp2_with fail
  refine (O1.out _).mono ?_
  rintro e w3 ⟨rfl, hb3⟩
  obtain ⟨x5, hx5⟩ : ∃ x, w3.heap.size = x := ⟨_, rfl⟩
  have HB3 := (HB2.out.below hb3 HB2.out.lt)
  have HL3 := (HL2.out.trans (hb3.mono (by have := HL2.out.size; omega)))
  have l3 := HB3.lt
  have n3 := Blk.new w3 #[.int .i64 o0, .int .i64 o1, .int .i64 o2, .int .i64 o3, .int .i64 o4, .int .i64 o5, .int .i64 o6, .int .i64 o7, .int .i64 o8, .int .i64 o9] 27
  have b3 := HB3.alloc (.cells #[.int .i64 o0, .int .i64 o1, .int .i64 o2, .int .i64 o3, .int .i64 o4, .int .i64 o5, .int .i64 o6, .int .i64 o7, .int .i64 o8, .int .i64 o9] 27)
  have c3 := HL3.alloc (by omega) (.cells #[.int .i64 o0, .int .i64 o1, .int .i64 o2, .int .i64 o3, .int .i64 o4, .int .i64 o5, .int .i64 o6, .int .i64 o7, .int .i64 o8, .int .i64 o9] 27)
  rw [hx5] at n3
  go_upto_region 6 with fail
  obtain ⟨w4, hw4⟩ : ∃ w4, w3.alloc (.cells #[.int .i64 o0, .int .i64 o1, .int .i64 o2, .int .i64 o3, .int .i64 o4, .int .i64 o5, .int .i64 o6, .int .i64 o7, .int .i64 o8, .int .i64 o9] 27) = w4 := ⟨_, rfl⟩
  rw [hw4] at n3 b3 c3 ⊢
  try rw [hx5]
  have HB4 := Lib.hid b3
  have HE4 := Lib.hid n3
  have HL4 := Lib.hid c3
  have hbx : b < x5 := by omega
  clear hb3 HB2 HL2 O1 HB3 HL3 l3 n3 b3 c3 hw4 hx5
  go_wp2_with fail
  refine (O2.out _).mono ?_
  rintro e w5 ⟨rfl, hb5⟩
  obtain ⟨x6, hx6⟩ : ∃ x, w5.heap.size = x := ⟨_, rfl⟩
  have HB5 := (HB4.out.below hb5 HB4.out.lt)
  have HE5 := (HE4.out.below hb5 HE4.out.lt)
  have HL5 := (HL4.out.trans (hb5.mono (by have := HL4.out.size; omega)))
  have l5 := HE5.lt
  have n5 := Blk.new w5 #[.int .i64 o0, .int .i64 o1, .int .i64 o2, .int .i64 o3, .int .i64 o4, .int .i64 o5, .int .i64 o6, .int .i64 o7, .int .i64 o8, .int .i64 o9] 27
  have b5 := HB5.alloc (.cells #[.int .i64 o0, .int .i64 o1, .int .i64 o2, .int .i64 o3, .int .i64 o4, .int .i64 o5, .int .i64 o6, .int .i64 o7, .int .i64 o8, .int .i64 o9] 27)
  have e5 := HE5.alloc (.cells #[.int .i64 o0, .int .i64 o1, .int .i64 o2, .int .i64 o3, .int .i64 o4, .int .i64 o5, .int .i64 o6, .int .i64 o7, .int .i64 o8, .int .i64 o9] 27)
  have c5 := HL5.alloc (by omega) (.cells #[.int .i64 o0, .int .i64 o1, .int .i64 o2, .int .i64 o3, .int .i64 o4, .int .i64 o5, .int .i64 o6, .int .i64 o7, .int .i64 o8, .int .i64 o9] 27)
  rw [hx6] at n5
  go_upto_region 7 with fail
  obtain ⟨w6, hw6⟩ : ∃ w6, w5.alloc (.cells #[.int .i64 o0, .int .i64 o1, .int .i64 o2, .int .i64 o3, .int .i64 o4, .int .i64 o5, .int .i64 o6, .int .i64 o7, .int .i64 o8, .int .i64 o9] 27) = w6 := ⟨_, rfl⟩
  rw [hw6] at n5 b5 e5 c5 ⊢
  try rw [hx6]
  have HD := Lib.hid b5
  have HE := Lib.hid e5
  have HF := Lib.hid n5
  have HL6 := Lib.hid c5
  clear hb5 HB4 HL4 HE4 O2 HB5 HE5 HL5 l5 n5 b5 e5 c5 hw6 hx6
  have l0 := HD.out.lt
  have l5 := HE.out.lt
  have l6 := HF.out.lt
  have d0 := HD.out.cell (i := 0) rfl
  have d1 := HD.out.cell (i := 1) rfl
  have d2 := HD.out.cell (i := 2) rfl
  have d3 := HD.out.cell (i := 3) rfl
  have d4 := HD.out.cell (i := 4) rfl
  have d5 := HD.out.cell (i := 5) rfl
  have d6 := HD.out.cell (i := 6) rfl
  have d7 := HD.out.cell (i := 7) rfl
  have d8 := HD.out.cell (i := 8) rfl
  have d9 := HD.out.cell (i := 9) rfl
  have e0 := HE.out.cell (i := 0) rfl
  have e1 := HE.out.cell (i := 1) rfl
  have e2 := HE.out.cell (i := 2) rfl
  have e3 := HE.out.cell (i := 3) rfl
  have e4 := HE.out.cell (i := 4) rfl
  have e5 := HE.out.cell (i := 5) rfl
  have e6 := HE.out.cell (i := 6) rfl
  have e7 := HE.out.cell (i := 7) rfl
  have e8 := HE.out.cell (i := 8) rfl
  have e9 := HE.out.cell (i := 9) rfl
  have f0 := HF.out.cell (i := 0) rfl
  have f1 := HF.out.cell (i := 1) rfl
  have f2 := HF.out.cell (i := 2) rfl
  have f3 := HF.out.cell (i := 3) rfl
  have f4 := HF.out.cell (i := 4) rfl
  have f5 := HF.out.cell (i := 5) rfl
  have f6 := HF.out.cell (i := 6) rfl
  have f7 := HF.out.cell (i := 7) rfl
  have f8 := HF.out.cell (i := 8) rfl
  have f9 := HF.out.cell (i := 9) rfl
  have hq := HQ.out
  go_region_held3 (fun w' => w'.cell? ⟨b, 0, none⟩ = some (.int .i64 q) ∧ w'.cell? ⟨b, 1, none⟩ = some (.int .i64 t) ∧ w'.cell? ⟨b, 2, none⟩ = some (.int .i64 k) ∧ w'.cell? ⟨b, 3, none⟩ = some (.int .i64 n) ∧ w'.cell? ⟨b, 4, none⟩ = some (.int .i64 j) ∧ w'.cell? ⟨b, 5, none⟩ = some (.int .i64 i) ∧ w'.cell? ⟨b, 6, none⟩ = some (.int .i64 p) ∧ w'.cell? ⟨b, 7, none⟩ = some (.int .i64 x) ∧ w'.cell? ⟨b, 8, none⟩ = some (.int .i64 y) ∧ w'.cell? ⟨b, 9, none⟩ = some (.int .i64 z) ∧ w'.cell? ⟨x5, 0, none⟩ = some (.int .i64 o0) ∧ w'.cell? ⟨x5, 1, none⟩ = some (.int .i64 o1) ∧ w'.cell? ⟨x5, 2, none⟩ = some (.int .i64 o2) ∧ w'.cell? ⟨x5, 3, none⟩ = some (.int .i64 o3) ∧ w'.cell? ⟨x5, 4, none⟩ = some (.int .i64 o4) ∧ w'.cell? ⟨x5, 5, none⟩ = some (.int .i64 o5) ∧ w'.cell? ⟨x5, 6, none⟩ = some (.int .i64 o6) ∧ w'.cell? ⟨x5, 7, none⟩ = some (.int .i64 o7) ∧ w'.cell? ⟨x5, 8, none⟩ = some (.int .i64 o8) ∧ w'.cell? ⟨x5, 9, none⟩ = some (.int .i64 o9) ∧ w'.cell? ⟨x6, 0, none⟩ = some (.int .i64 o0) ∧ w'.cell? ⟨x6, 1, none⟩ = some (.int .i64 o1) ∧ w'.cell? ⟨x6, 2, none⟩ = some (.int .i64 o2) ∧ w'.cell? ⟨x6, 3, none⟩ = some (.int .i64 o3) ∧ w'.cell? ⟨x6, 4, none⟩ = some (.int .i64 o4) ∧ w'.cell? ⟨x6, 5, none⟩ = some (.int .i64 o5) ∧ w'.cell? ⟨x6, 6, none⟩ = some (.int .i64 o6) ∧ w'.cell? ⟨x6, 7, none⟩ = some (.int .i64 o7) ∧ w'.cell? ⟨x6, 8, none⟩ = some (.int .i64 o8) ∧ w'.cell? ⟨x6, 9, none⟩ = some (.int .i64 o9))
    (first | (go_keep; done) | exact ⟨keepB hwe d0 l0, keepB hwe d1 l0, keepB hwe d2 l0, keepB hwe d3 l0, keepB hwe d4 l0, keepB hwe d5 l0, keepB hwe d6 l0, keepB hwe d7 l0, keepB hwe d8 l0, keepB hwe d9 l0, keepB hwe e0 l5, keepB hwe e1 l5, keepB hwe e2 l5, keepB hwe e3 l5, keepB hwe e4 l5, keepB hwe e5 l5, keepB hwe e6 l5, keepB hwe e7 l5, keepB hwe e8 l5, keepB hwe e9 l5, keepB hwe f0 l6, keepB hwe f1 l6, keepB hwe f2 l6, keepB hwe f3 l6, keepB hwe f4 l6, keepB hwe f5 l6, keepB hwe f6 l6, keepB hwe f7 l6, keepB hwe f8 l6, keepB hwe f9 l6⟩ | exact ⟨keepB hwd d0 l0, keepB hwd d1 l0, keepB hwd d2 l0, keepB hwd d3 l0, keepB hwd d4 l0, keepB hwd d5 l0, keepB hwd d6 l0, keepB hwd d7 l0, keepB hwd d8 l0, keepB hwd d9 l0, keepB hwd e0 l5, keepB hwd e1 l5, keepB hwd e2 l5, keepB hwd e3 l5, keepB hwd e4 l5, keepB hwd e5 l5, keepB hwd e6 l5, keepB hwd e7 l5, keepB hwd e8 l5, keepB hwd e9 l5, keepB hwd f0 l6, keepB hwd f1 l6, keepB hwd f2 l6, keepB hwd f3 l6, keepB hwd f4 l6, keepB hwd f5 l6, keepB hwd f6 l6, keepB hwd f7 l6, keepB hwd f8 l6, keepB hwd f9 l6⟩ | exact ⟨keepB hwc d0 l0, keepB hwc d1 l0, keepB hwc d2 l0, keepB hwc d3 l0, keepB hwc d4 l0, keepB hwc d5 l0, keepB hwc d6 l0, keepB hwc d7 l0, keepB hwc d8 l0, keepB hwc d9 l0, keepB hwc e0 l5, keepB hwc e1 l5, keepB hwc e2 l5, keepB hwc e3 l5, keepB hwc e4 l5, keepB hwc e5 l5, keepB hwc e6 l5, keepB hwc e7 l5, keepB hwc e8 l5, keepB hwc e9 l5, keepB hwc f0 l6, keepB hwc f1 l6, keepB hwc f2 l6, keepB hwc f3 l6, keepB hwc f4 l6, keepB hwc f5 l6, keepB hwc f6 l6, keepB hwc f7 l6, keepB hwc f8 l6, keepB hwc f9 l6⟩)
    (first
      | (go_at_call 13; refine (C1.out _).mono ?_; rintro e wc ⟨rfl, hbq⟩; have hwc : Below w6.heap.size w6 wc := ⟨hbq.os, hbq.tape, hbq.output, hbq.size, hbq.block⟩; clear hbq)
      | (go_at_call 14; refine (C2.out _).mono ?_; rintro e wd ⟨rfl, hbq⟩; have hwd : Below w6.heap.size w6 wd := hwc.trans (Below.mono (by exact ⟨hbq.os, hbq.tape, hbq.output, hbq.size, hbq.block⟩) hwc.size); clear hbq)
      | (go_at_call 8; refine (A20.out _).mono ?_; rintro e we ⟨rfl, hbq⟩; have hwe : Below w6.heap.size w6 we := hwd.trans (Below.mono (by exact ⟨hbq.os, hbq.tape, hbq.output, hbq.size, hbq.block⟩) hwd.size); clear hbq))
  have HL9 := Lib.hid (HL6.out.trans (hwe.mono (by have := HL6.out.size; omega)))
  go_wp2_with fail
  go_ret
  exact ⟨rfl, HL9.out⟩
theorem walk_RecordSeals (q t k n j i p x y z : Int) (s : ByteArray) (w : World) (h0 : (Lit.int .i64 q).wf = true) (h1 : (Lit.int .i64 t).wf = true) (h2 : (Lit.int .i64 k).wf = true) (h3 : (Lit.int .i64 n).wf = true) (h4 : (Lit.int .i64 j).wf = true) (h5 : (Lit.int .i64 i).wf = true) (h6 : (Lit.int .i64 p).wf = true) (h7 : (Lit.int .i64 x).wf = true) (h8 : (Lit.int .i64 y).wf = true) (h9 : (Lit.int .i64 z).wf = true) (hs : s.size ≤ maxLen) :
    Calls Tryz.prog 3 #[.agg #[.int .i64 q, .int .i64 t, .int .i64 k, .int .i64 n, .int .i64 j, .int .i64 i, .int .i64 p, .int .i64 x, .int .i64 y, .int .i64 z], .string s] w fun e w' => e = .returned (.bool true) ∧ Below w.heap.size w w' :=
  walk_rs [q, t, k, n, j, i, p, x, y, z] rfl (by
    intro a ha
    simp at ha
    rcases ha with rfl | rfl | rfl | rfl | rfl | rfl | rfl | rfl | rfl | rfl <;> assumption) s w hs
end Go.Proofs.YtokghlmffkboiaaGreat
