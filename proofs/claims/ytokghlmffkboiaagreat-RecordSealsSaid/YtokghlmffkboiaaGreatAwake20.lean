/-
  What must come whatever the arguments are (the statements of reeve's layer 20): the walk.
-/
import Derived.Test.YtokghlmffkboiaaGreatRecEq
namespace Go.Proofs.YtokghlmffkboiaaGreat
open Go.RowKit
set_option linter.unusedVariables false
set_option linter.unusedSimpArgs false

theorem aw20_check : recCheck [1, 2, 5, 0, 3, 0, 0, 0, 0, 0] = 0 := by decide
theorem aw20_wf : wfI [1, 2, 5, 0, 3, 0, 0, 0, 0, 0] := by
  intro x hx
  simp at hx
  rcases hx with rfl | rfl | rfl | rfl | rfl | rfl <;> decide
theorem wf_zeroR : wfI zeroR := by
  intro x hx
  simp [zeroR] at hx
  subst hx; decide
theorem aw20_bytes : recB [1, 2, 5, 0, 3, 0, 0, 0, 0, 0] = [1, 2, 5, 3] := by
  have h1 : varAny 1 = [1] := by show Oct.varB 1 = _; rw [Oct.varB_lt (by decide)]; rfl
  have h2 : varAny 2 = [2] := by show Oct.varB 2 = _; rw [Oct.varB_lt (by decide)]; rfl
  have h3 : varAny 3 = [3] := by show Oct.varB 3 = _; rw [Oct.varB_lt (by decide)]; rfl
  show varAny 1 ++ varAny 2 ++ (Oct.fixB 5 1 ++ (varAny 3 ++ [])) = _
  rw [h1, h2, h3]
  rfl
theorem mid_seal (b : ByteArray) : (sealB b).extract 3 (b.size + 3) = b := by
  have e : sealB b = (str [82] ++ longB b) ++ (b ++ sumB (longB b ++ b)) := by rw [sealB_eq, ByteArray.append_assoc (b := b)]
  have hz : (str [82] ++ longB b).size = 3 := by rw [ByteArray.size_append, longB_size, str_size]; rfl
  generalize str [82] ++ longB b = A at e hz
  rw [e, ByteArray.extract_append, hz, ByteArray.extract_append, show b.size + 3 - 3 = b.size by omega, Nat.sub_self, ByteArray.extract_zero_size]
  rw [show (sumB (longB b ++ b)).extract (0 - b.size) (b.size - b.size) = ByteArray.empty by
    apply ByteArray.ext
    apply Array.eq_empty_of_size_eq_zero
    show ((sumB (longB b ++ b)).extract (0 - b.size) (b.size - b.size)).size = 0
    rw [ByteArray.size_extract]; omega]
  rw [show A.extract 3 (b.size + 3) = ByteArray.empty from ext_none _ _ _ (by omega)]
  simp
set_option maxRecDepth 100000 in
set_option maxHeartbeats 3200000 in
theorem awake20 (w : World) : Calls Tryz.prog 8 #[] w fun e w' => e = .returned (.bool true) ∧ Below w.heap.size w w' := by
  have hu := Tryz.underlying27
  have hSL := rec_seal [1, 2, 5, 0, 3, 0, 0, 0, 0, 0] rfl aw20_wf
  rw [sealR_zero aw20_check, aw20_bytes] at hSL
  have h11 : (sealB (str [1, 2, 5, 3])).size = 11 := by rw [sealB_size]; rfl
  have hmid : ((sealB (str [1, 2, 5, 3])).extract 3 7).toList = [1, 2, 5, 3] := by
    have h := mid_seal (str [1, 2, 5, 3])
    rw [show (str [1, 2, 5, 3]).size + 3 = 7 from rfl] at h
    rw [h, ByteArray.toList_eq]; rfl
  have hOP := rec_open (sealB (str [1, 2, 5, 3]) ++ ⟨#[120]⟩) (by rw [ByteArray.size_append, h11]; decide)
  have hopen := openR_seal [1, 2, 5, 0, 3, 0, 0, 0, 0, 0] rfl (fun a h => aw20_wf a (List.mem_of_mem_drop h)) aw20_check ⟨#[120]⟩
  rw [aw20_bytes] at hopen
  rw [hopen, h11] at hOP
  have hSZ := rec_seal zeroR rfl wf_zeroR
  rw [sealR_err (r := zeroR) (by decide), show recCheck zeroR = 1 by decide] at hSZ
  have hC := rec_check [1, 2, 5, 0, 3, 0, 0, 0, 0, 0] rfl
  rw [aw20_check] at hC
  have hq := eql_rec [1, 2, 5, 0, 3, 0, 0, 0, 0, 0] [1, 2, 5, 0, 3, 0, 0, 0, 0, 0] rfl rfl
  rw [decide_eq_true (rfl : [1, 2, 5, 0, 3, 0, 0, 0, 0, 0] = ([1, 2, 5, 0, 3, 0, 0, 0, 0, 0] : List Int))] at hq
  have a1 : cellsI [1, 2, 5, 0, 3, 0, 0, 0, 0, 0] = #[.int .i64 1, .int .i64 2, .int .i64 5, .int .i64 0, .int .i64 3, .int .i64 0, .int .i64 0, .int .i64 0, .int .i64 0, .int .i64 0] := rfl
  have a2 : cellsI zeroR = #[.int .i64 0, .int .i64 0, .int .i64 0, .int .i64 0, .int .i64 0, .int .i64 0, .int .i64 0, .int .i64 0, .int .i64 0, .int .i64 0] := rfl
  simp only [a1, a2] at hSL hOP hSZ hC hq
  clear a1 a2 hopen
  obtain ⟨S, hS⟩ : ∃ S, sealB (str [1, 2, 5, 3]) = S := ⟨_, rfl⟩
  rw [hS] at hSL hOP h11 hmid
  clear hS
  have z1 : S.size + (⟨#[120]⟩ : ByteArray).size ≤ 9223372036854775807 := by rw [h11]; decide
  have z2 : (7 : Int) ≤ (S.size : Int) := by omega
  have HSL := Lib.hid hSL
  have HOP := Lib.hid hOP
  have HSZ := Lib.hid hSZ
  have HC := Lib.hid hC
  clear hSL hOP hSZ hC
  go_enter Tryz.func8, Tryz.ntmps8
  go_wp2_with fail
  refine (HSL.out _).mono ?_
  rintro e w1 ⟨rfl, hb1⟩
  have X1 : Hid (Blk w1 w.heap.size #[.int .i64 1, .int .i64 2, .int .i64 5, .int .i64 0, .int .i64 3, .int .i64 0, .int .i64 0, .int .i64 0, .int .i64 0, .int .i64 0] 27) := Lib.hid ((Blk.new w _ _).below hb1 (by simp))
  have L1 : Hid (Below w.heap.size w w1) := Lib.hid (((Below.refl w.heap.size w).alloc (Nat.le_refl _) _).trans (hb1.mono (by simp)))
  clear hb1
  go_wp2_with fail
  refine (HOP.out _).mono ?_
  rintro e w2 ⟨rfl, hb2⟩
  have X2 := Lib.hid (X1.out.below hb2 X1.out.lt)
  have L2 := Lib.hid (L1.out.trans (hb2.mono L1.out.size))
  clear hb2 X1 L1
  go_wp2_with fail
  refine (HSZ.out _).mono ?_
  rintro e w3 ⟨rfl, hb3⟩
  have X3 := Lib.hid ((X2.out.alloc (.cells #[.int .i64 1, .int .i64 2, .int .i64 5, .int .i64 0, .int .i64 3, .int .i64 0, .int .i64 0, .int .i64 0, .int .i64 0, .int .i64 0] 27)).below hb3 (by have := X2.out.lt; simp; omega))
  have Y3 : Hid (Blk w3 w2.heap.size #[.int .i64 1, .int .i64 2, .int .i64 5, .int .i64 0, .int .i64 3, .int .i64 0, .int .i64 0, .int .i64 0, .int .i64 0, .int .i64 0] 27) := Lib.hid ((Blk.new w2 _ _).below hb3 (by simp))
  have L3 := Lib.hid ((L2.out.alloc L2.out.size (.cells #[.int .i64 1, .int .i64 2, .int .i64 5, .int .i64 0, .int .i64 3, .int .i64 0, .int .i64 0, .int .i64 0, .int .i64 0, .int .i64 0] 27)).trans (hb3.mono (by have := L2.out.size; simp; omega)))
  clear hb3 X2 L2
  have d0 := X3.out.cell (i := 0) rfl
  have e0 := Y3.out.cell (i := 0) rfl
  have d1 := X3.out.cell (i := 1) rfl
  have e1 := Y3.out.cell (i := 1) rfl
  have d2 := X3.out.cell (i := 2) rfl
  have e2 := Y3.out.cell (i := 2) rfl
  have d3 := X3.out.cell (i := 3) rfl
  have e3 := Y3.out.cell (i := 3) rfl
  have d4 := X3.out.cell (i := 4) rfl
  have e4 := Y3.out.cell (i := 4) rfl
  have d5 := X3.out.cell (i := 5) rfl
  have e5 := Y3.out.cell (i := 5) rfl
  have d6 := X3.out.cell (i := 6) rfl
  have e6 := Y3.out.cell (i := 6) rfl
  have d7 := X3.out.cell (i := 7) rfl
  have e7 := Y3.out.cell (i := 7) rfl
  have d8 := X3.out.cell (i := 8) rfl
  have e8 := Y3.out.cell (i := 8) rfl
  have d9 := X3.out.cell (i := 9) rfl
  have e9 := Y3.out.cell (i := 9) rfl
  go_wp2_with fail
  refine (HC.out _).mono ?_
  rintro e w4 ⟨rfl, hb4⟩
  have L4 := Lib.hid (L3.out.trans (hb4.mono L3.out.size))
  clear hb4
  go_wp2_with fail
  go_ret
  exact ⟨rfl, L4.out⟩
end Go.Proofs.YtokghlmffkboiaaGreat
