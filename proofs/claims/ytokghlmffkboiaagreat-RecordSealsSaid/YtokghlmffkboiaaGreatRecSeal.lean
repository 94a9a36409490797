/-
  A record's bytes (reeve's layer 20): the program's walk.
-/
import Derived.Test.YtokghlmffkboiaaGreatRecPut
namespace Go.Proofs.YtokghlmffkboiaaGreat
open Go.RowKit
set_option linter.unusedVariables false
set_option linter.unusedSimpArgs false

set_option maxRecDepth 100000 in
set_option maxHeartbeats 1600000 in
theorem rec_seal (r : List Int) (hr : r.length = 10) (hw : wfI r) (w : World) :
    Calls Tryz.prog 9 #[.agg (cellsI r)] w fun e w' => e = .returned (.tuple #[.string (sealR r).1, .int .i64 (sealR r).2]) ∧ Below w.heap.size w w' := by
  have hu := Tryz.underlying27
  have hC := rec_check r hr
  have hwe : wfI (r.drop 2) := fun a h => hw a (List.mem_of_mem_drop h)
  have hle := fun h => recB_le r h hwe
  have hz := fun h => recCheck_zero (r := r) h
  have hwq := fun i => wfI_fld hw i
  obtain ⟨q, t, k, n, j, i, p, x, y, z, rfl⟩ := ten_of hr
  clear hr
  have hP := event_put [k, n, j, i, p, x, y, z] rfl hwe
  have hS1 : recCheck [q, t, k, n, j, i, p, x, y, z] = 0 → sealR [q, t, k, n, j, i, p, x, y, z] = (sealB (str (recB [q, t, k, n, j, i, p, x, y, z])), 0) := by intro h; unfold sealR; rw [if_pos h]
  have hS2 : recCheck [q, t, k, n, j, i, p, x, y, z] ≠ 0 → sealR [q, t, k, n, j, i, p, x, y, z] = (⟨#[]⟩, recCheck [q, t, k, n, j, i, p, x, y, z]) := by intro h; unfold sealR; rw [if_neg h]
  have hB : recB [q, t, k, n, j, i, p, x, y, z] = varAny q ++ varAny t ++ putB [k, n, j, i, p, x, y, z] := rfl
  have hz3 : recCheck [q, t, k, n, j, i, p, x, y, z] = 0 → checkL [k, n, j, i, p, x, y, z] = 0 := fun h => (hz h).2.2
  have hps : checkL [k, n, j, i, p, x, y, z] = 0 → putS [k, n, j, i, p, x, y, z] = str (putB [k, n, j, i, p, x, y, z]) := by intro h; unfold putS; rw [if_pos h]
  have hq9 : q ≤ 9223372036854775807 := (hwq 0).2
  have ht9 : t ≤ 9223372036854775807 := (hwq 1).2
  have a1 : cellsI [q, t, k, n, j, i, p, x, y, z] = #[.int .i64 q, .int .i64 t, .int .i64 k, .int .i64 n, .int .i64 j, .int .i64 i, .int .i64 p, .int .i64 x, .int .i64 y, .int .i64 z] := rfl
  have a2 : cellsI [k, n, j, i, p, x, y, z] = #[.int .i64 k, .int .i64 n, .int .i64 j, .int .i64 i, .int .i64 p, .int .i64 x, .int .i64 y, .int .i64 z] := rfl
  rw [a1] at hC ⊢
  rw [a2] at hP
  clear a1 a2 hz hwe hwq hw
  generalize sealR [q, t, k, n, j, i, p, x, y, z] = SR at hS1 hS2 ⊢
  generalize recCheck [q, t, k, n, j, i, p, x, y, z] = RC at hC hle hS1 hS2 hz3
  generalize putS [k, n, j, i, p, x, y, z] = PS at hP hps
  generalize checkL [k, n, j, i, p, x, y, z] = CE at hP hz3 hps
  generalize putB [k, n, j, i, p, x, y, z] = PB at hB hps
  generalize recB [q, t, k, n, j, i, p, x, y, z] = RB at hle hS1 hB
  obtain ⟨S1, S2⟩ := SR
  have HC := Lib.hid hC
  have HLE := Lib.hid hle
  have HP := Lib.hid hP
  have HS1 := Lib.hid hS1
  have HS2 := Lib.hid hS2
  have HBB := Lib.hid hB
  have HZ := Lib.hid hz3
  have HPS := Lib.hid hps
  clear hC hle hP hS1 hS2 hB hz3 hps
  obtain ⟨W, hW⟩ : ∃ W, w.alloc (.cells #[.int .i64 q, .int .i64 t, .int .i64 k, .int .i64 n, .int .i64 j, .int .i64 i, .int .i64 p, .int .i64 x, .int .i64 y, .int .i64 z] 27) = W := ⟨_, rfl⟩
  have HB : Hid (Blk W w.heap.size #[.int .i64 q, .int .i64 t, .int .i64 k, .int .i64 n, .int .i64 j, .int .i64 i, .int .i64 p, .int .i64 x, .int .i64 y, .int .i64 z] 27) := Lib.hid (by rw [← hW]; exact Blk.new w _ _)
  have HL : Hid (Below w.heap.size w W) := Lib.hid (by rw [← hW]; exact (Below.refl w.heap.size w).alloc (Nat.le_refl _) _)
  have HW := Lib.hid hW
  clear hW
  go_enter Tryz.func9, Tryz.ntmps9
  go_upto_region 1 with fail
  rw [HW.out]
  clear HW
  go_wp2_with (with_reducible refine ev_load rfl 27 (.tmp 1) rfl w.heap.size rfl 27 #[.int .i64 q, .int .i64 t, .int .i64 k, .int .i64 n, .int .i64 j, .int .i64 i, .int .i64 p, .int .i64 x, .int .i64 y, .int .i64 z] _ HB.out hu rfl (by kernel_rfl) ?_)
  refine (HC.out _).mono ?_
  rintro e w1 ⟨rfl, hb1⟩
  have HB1 := Lib.hid (HB.out.below hb1 HB.out.lt)
  have HL1 := Lib.hid (HL.out.trans (hb1.mono HL.out.size))
  clear hb1 HB HL HC
  by_cases h0 : RC = 0
  · subst h0
    have hce := HZ.out rfl
    subst hce
    have hps := HPS.out rfl
    subst hps
    have HS := Lib.hid (HS1.out rfl)
    have hle := HLE.out rfl
    clear HS1 HS2 HZ HPS HLE
    have c0 := HB1.out.cell (i := 0) rfl
    have c1 := HB1.out.cell (i := 1) rfl
    have c2 := HB1.out.cell (i := 2) rfl
    have c3 := HB1.out.cell (i := 3) rfl
    have c4 := HB1.out.cell (i := 4) rfl
    have c5 := HB1.out.cell (i := 5) rfl
    have c6 := HB1.out.cell (i := 6) rfl
    have c7 := HB1.out.cell (i := 7) rfl
    have c8 := HB1.out.cell (i := 8) rfl
    have c9 := HB1.out.cell (i := 9) rfl
    go_wp2_with fail
    refine (HP.out _).mono ?_
    rintro e w2 ⟨rfl, hb2⟩
    have HB2 := Lib.hid (HB1.out.below hb2 HB1.out.lt)
    have HL2 := Lib.hid (HL1.out.trans (hb2.mono HL1.out.size))
    clear hb2 HB1 HL1 HP c0 c1 c2 c3 c4 c5 c6 c7 c8 c9
    have c0 := HB2.out.cell (i := 0) rfl
    have c1 := HB2.out.cell (i := 1) rfl
    go_wp2_with fail
    refine (rec_vars _ [q, t] (by simp) (by intro a ha; simp at ha; rcases ha with rfl | rfl <;> assumption) _ (row_of_built (cs := [.int .i64 q, .int .i64 t]) (Blk.new w2 _ _) (Nat.zero_le _))).mono ?_
    rintro e w3 ⟨rfl, hb3⟩
    have HL3 := Lib.hid ((HL2.out.alloc HL2.out.size _).trans (hb3.mono (by have := HL2.out.size; simp; omega)))
    clear hb3 HB2 HL2 c0 c1
    have hfm : [q, t].flatMap varAny = varAny q ++ varAny t := by simp
    rw [hfm]
    have hsum : str (varAny q ++ varAny t) ++ str PB = str RB := by rw [HBB.out, str_append]
    have hsz : (str RB).size ≤ 64 := by rw [str_size]; exact hle
    have hz2 : (str (varAny q ++ varAny t)).size + (str PB).size = (str RB).size := by rw [← hsum, ByteArray.size_append]
    have HF := Lib.hid (frame_seal (str RB) (by omega))
    have hsum' : (⟨(str (varAny q ++ varAny t)).data ++ (str PB).data⟩ : ByteArray) = str RB := by rw [str_add2]; exact hsum
    obtain ⟨SA, hSA⟩ : ∃ s, str (varAny q ++ varAny t) = s := ⟨_, rfl⟩
    obtain ⟨SB, hSB⟩ : ∃ s, str PB = s := ⟨_, rfl⟩
    obtain ⟨SC, hSC⟩ : ∃ s, str RB = s := ⟨_, rfl⟩
    rw [hSA, hSB, hSC] at hsum hsum' hz2
    rw [hSC] at hsz HF HS
    rw [hSA, hSB]
    have hadd : SA.size + SB.size ≤ 9223372036854775807 := by omega
    clear hSA hSB hSC hfm hle
    go_wp2_with fail
    refine (HF.out _).mono ?_
    rintro e w4 ⟨rfl, hb4⟩
    have HL4 := Lib.hid (HL3.out.trans (hb4.mono HL3.out.size))
    clear hb4
    go_wp2_with fail
    go_ret2
    exact ⟨by rw [(Prod.mk.inj HS.out).1, (Prod.mk.inj HS.out).2]; rfl, HL4.out⟩
  · have hne : (RC == 0) = false := by rw [beq_eq_false_iff_ne]; exact h0
    have HS := Lib.hid (HS2.out h0)
    clear h0 HS1 HS2 HZ HPS HLE
    go_wp2_with fail
    go_ret2
    exact ⟨by rw [(Prod.mk.inj HS.out).1, (Prod.mk.inj HS.out).2]; rfl, HL1.out⟩
end Go.Proofs.YtokghlmffkboiaaGreat
