/-
  The walk of the statement MsgPuts.
-/
import Derived.Test.YtcibeiehdjekiaaGreatDoorMsgLaid
import Derived.Test.YtcibeiehdjekiaaGreatDoorAwake35
import Derived.Test.YtcibeiehdjekiaaGreatDoorMsgRefName
import Derived.Test.YtcibeiehdjekiaaGreatDoorMsgRefPut
namespace Go.Proofs.YtcibeiehdjekiaaGreatDoor
open Go.RowKit
set_option linter.unusedVariables false
set_option linter.unusedSimpArgs false

theorem wf_twelve {m0 m1 m2 m3 m4 m5 m6 m7 m8 m9 m10 m11 : Int} (h0 : (Lit.int .i64 m0).wf = true) (h1 : (Lit.int .i64 m1).wf = true) (h2 : (Lit.int .i64 m2).wf = true) (h3 : (Lit.int .i64 m3).wf = true) (h4 : (Lit.int .i64 m4).wf = true) (h5 : (Lit.int .i64 m5).wf = true) (h6 : (Lit.int .i64 m6).wf = true) (h7 : (Lit.int .i64 m7).wf = true) (h8 : (Lit.int .i64 m8).wf = true) (h9 : (Lit.int .i64 m9).wf = true) (h10 : (Lit.int .i64 m10).wf = true) (h11 : (Lit.int .i64 m11).wf = true) : wfI [m0, m1, m2, m3, m4, m5, m6, m7, m8, m9, m10, m11] := by
  intro a ha
  simp at ha
  rcases ha with rfl | rfl | rfl | rfl | rfl | rfl | rfl | rfl | rfl | rfl | rfl | rfl <;> assumption
set_option maxRecDepth 100000 in
set_option maxHeartbeats 3200000 in
theorem walk_MsgPuts (m0 m1 m2 m3 m4 m5 m6 m7 m8 m9 m10 m11 n : Int) (s : ByteArray) (w : World) (h0 : (Lit.int .i64 m0).wf = true) (h1 : (Lit.int .i64 m1).wf = true) (h2 : (Lit.int .i64 m2).wf = true) (h3 : (Lit.int .i64 m3).wf = true) (h4 : (Lit.int .i64 m4).wf = true) (h5 : (Lit.int .i64 m5).wf = true) (h6 : (Lit.int .i64 m6).wf = true) (h7 : (Lit.int .i64 m7).wf = true) (h8 : (Lit.int .i64 m8).wf = true) (h9 : (Lit.int .i64 m9).wf = true) (h10 : (Lit.int .i64 m10).wf = true) (h11 : (Lit.int .i64 m11).wf = true) (hn : (Lit.int .i64 n).wf = true) (hs : s.size ≤ maxLen) (hLR : laidMetH Tryz.prog Rows.msgPutsRow.laid w) :
    Calls Tryz.prog 3 #[.agg #[.int .i64 m0, .int .i64 m1, .int .i64 m2, .int .i64 m3, .int .i64 m4, .int .i64 m5, .int .i64 m6, .int .i64 m7, .int .i64 m8, .int .i64 m9, .int .i64 m10, .int .i64 m11], .int .i64 n, .string s] w fun e w' => e = .returned (.bool true) ∧ Below w.heap.size w w' := by
  have hu := Tryz.underlying25
  have hs63 : s.size ≤ 9223372036854775807 := by unfold maxLen at hs; omega
  have hwf : wfI [m0, m1, m2, m3, m4, m5, m6, m7, m8, m9, m10, m11] := wf_twelve h0 h1 h2 h3 h4 h5 h6 h7 h8 h9 h10 h11
  clear h0 h1 h2 h3 h4 h5 h6 h7 h8 h9 h10 h11
  have HL0 := Lib.hid (laid_msg_Puts hLR)
  clear hLR
  by_cases hbig : 60 < s.size
  · have hbI : (60 : Int) < (s.size : Int) := by omega
    clear hbig hwf
    go_enter Tryz.func3, Tryz.ntmps3
    go_wp2_with fail
    refine (awake35 _ (HL0.out.below ((Below.refl w.heap.size w).alloc (Nat.le_refl _) _))).mono ?_
    rintro e w1 ⟨rfl, hb⟩
    have HL := Lib.hid (((Below.refl w.heap.size w).alloc (Nat.le_refl _) (.cells #[.int .i64 m0, .int .i64 m1, .int .i64 m2, .int .i64 m3, .int .i64 m4, .int .i64 m5, .int .i64 m6, .int .i64 m7, .int .i64 m8, .int .i64 m9, .int .i64 m10, .int .i64 m11] 25)).trans (hb.mono (by simp)))
    clear hb
    go_wp2_with fail
    go_ret
    exact ⟨rfl, HL.out⟩
  have hbI : (s.size : Int) ≤ 60 := by omega
  have hP := msg_put [m0, m1, m2, m3, m4, m5, m6, m7, m8, m9, m10, m11] rfl hwf
  have hR := ref35_put [m0, m1, m2, m3, m4, m5, m6, m7, m8, m9, m10, m11] rfl hwf
  have hC := msg_check [m0, m1, m2, m3, m4, m5, m6, m7, m8, m9, m10, m11] rfl
  have hD := ref35_check [m0, m1, m2, m3, m4, m5, m6, m7, m8, m9, m10, m11] rfl
  have hU := msg_pure [m0, m1, m2, m3, m4, m5, m6, m7, m8, m9, m10, m11] rfl
  have hV := ref35_pure [m0, m1, m2, m3, m4, m5, m6, m7, m8, m9, m10, m11] rfl
  have hPN := msg_parseName s (by omega)
  have hRN := ref35_parseName s
  have hq := eql_msg (pureM [m0, m1, m2, m3, m4, m5, m6, m7, m8, m9, m10, m11]) (pureM [m0, m1, m2, m3, m4, m5, m6, m7, m8, m9, m10, m11]) (pureM_length _) (pureM_length _)
  rw [decide_eq_true rfl] at hq
  have a1 : cellsI [m0, m1, m2, m3, m4, m5, m6, m7, m8, m9, m10, m11] = #[.int .i64 m0, .int .i64 m1, .int .i64 m2, .int .i64 m3, .int .i64 m4, .int .i64 m5, .int .i64 m6, .int .i64 m7, .int .i64 m8, .int .i64 m9, .int .i64 m10, .int .i64 m11] := rfl
  obtain ⟨p0, p1, p2, p3, p4, p5, p6, p7, p8, p9, p10, p11, hpl⟩ := twelve_of (pureM_length [m0, m1, m2, m3, m4, m5, m6, m7, m8, m9, m10, m11])
  have a2 : cellsI [p0, p1, p2, p3, p4, p5, p6, p7, p8, p9, p10, p11] = #[.int .i64 p0, .int .i64 p1, .int .i64 p2, .int .i64 p3, .int .i64 p4, .int .i64 p5, .int .i64 p6, .int .i64 p7, .int .i64 p8, .int .i64 p9, .int .i64 p10, .int .i64 p11] := rfl
  rw [hpl, a2] at hU hV hq
  rw [a1] at hP hR hC hD hU hV
  clear a1 a2 hpl hwf hbig
  generalize putM [m0, m1, m2, m3, m4, m5, m6, m7, m8, m9, m10, m11] = PUT at hP hR
  obtain ⟨PS, PE⟩ := PUT
  generalize checkM [m0, m1, m2, m3, m4, m5, m6, m7, m8, m9, m10, m11] = CK at hC hD
  generalize parseN s.data.toList = QQ at hPN hRN
  obtain ⟨QN, QB⟩ := QQ
  have HP := Lib.hid hP
  have HR := Lib.hid hR
  have HC := Lib.hid hC
  have HD := Lib.hid hD
  have HU := Lib.hid hU
  have HV := Lib.hid hV
  have HPN := Lib.hid hPN
  have HRN := Lib.hid hRN
  have HQ := Lib.hid hq
  clear hP hR hC hD hU hV hPN hRN hq
  obtain ⟨W, hW⟩ : ∃ W, w.alloc (.cells #[.int .i64 m0, .int .i64 m1, .int .i64 m2, .int .i64 m3, .int .i64 m4, .int .i64 m5, .int .i64 m6, .int .i64 m7, .int .i64 m8, .int .i64 m9, .int .i64 m10, .int .i64 m11] 25) = W := ⟨_, rfl⟩
  have HB : Hid (Blk W w.heap.size #[.int .i64 m0, .int .i64 m1, .int .i64 m2, .int .i64 m3, .int .i64 m4, .int .i64 m5, .int .i64 m6, .int .i64 m7, .int .i64 m8, .int .i64 m9, .int .i64 m10, .int .i64 m11] 25) := Lib.hid (by rw [← hW]; exact Blk.new w _ _)
  have HL : Hid (Below w.heap.size w W) := Lib.hid (by rw [← hW]; exact (Below.refl w.heap.size w).alloc (Nat.le_refl _) _)
  have HW := Lib.hid hW
  clear hW
  go_enter Tryz.func3, Tryz.ntmps3
  go_upto_region 1 with fail
  rw [HW.out]
  clear HW
  go_wp2_with (with_reducible refine ev_load rfl 25 (.tmp 3) rfl (w.heap.size) rfl 25 #[.int .i64 m0, .int .i64 m1, .int .i64 m2, .int .i64 m3, .int .i64 m4, .int .i64 m5, .int .i64 m6, .int .i64 m7, .int .i64 m8, .int .i64 m9, .int .i64 m10, .int .i64 m11] _ HB.out hu rfl (by kernel_rfl) ?_)
  refine (HP.out _ (HL0.out.below HL.out)).mono ?_
  rintro e w1 ⟨rfl, hb1⟩
  have HB1 := Lib.hid (HB.out.below hb1 HB.out.lt)
  have HL1 := Lib.hid (HL.out.trans (hb1.mono HL.out.size))
  clear hb1 HB HL
  go_wp2_with (with_reducible refine ev_load rfl 25 (.tmp 3) rfl (w.heap.size) rfl 25 #[.int .i64 m0, .int .i64 m1, .int .i64 m2, .int .i64 m3, .int .i64 m4, .int .i64 m5, .int .i64 m6, .int .i64 m7, .int .i64 m8, .int .i64 m9, .int .i64 m10, .int .i64 m11] _ HB1.out hu rfl (by kernel_rfl) ?_)
  refine (HR.out _).mono ?_
  rintro e w2 ⟨rfl, hb2⟩
  have HB2 := Lib.hid (HB1.out.below hb2 HB1.out.lt)
  have HL2 := Lib.hid (HL1.out.trans (hb2.mono HL1.out.size))
  clear hb2 HB1 HL1
  go_wp2_with fail
  refine (HPN.out _ (HL0.out.below HL2.out).laid).mono ?_
  rintro e w6 ⟨rfl, hb3⟩
  have HB := Lib.hid (HB2.out.below hb3 HB2.out.lt)
  have HL6 := Lib.hid (HL2.out.trans (hb3.mono HL2.out.size))
  clear hb3 HB2 HL2
  go_wp2_with fail
  refine (HRN.out _).mono ?_
  rintro e w' ⟨rfl, rfl⟩
  go_upto_region 7 with fail
  have HLM := Lib.hid (HL0.out.below HL6.out)
  obtain ⟨NA, hNA⟩ : ∃ s, strL (nameM n) = s := ⟨_, rfl⟩
  have hNM := fun w hl => msg_name n w hl
  have hRM := fun w => ref35_name n w
  rw [hNA] at hNM hRM
  have HNM := Lib.hid hNM
  have HRM := Lib.hid hRM
  obtain ⟨PN, hPL⟩ : ∃ p, placeI n = p := ⟨_, rfl⟩
  have hPA := fun w => msg_place n w
  have hPB := fun w => ref35_place n w
  rw [hPL] at hPA hPB
  have HPA := Lib.hid hPA
  have HPB := Lib.hid hPB
  clear hNA hNM hRM hPL hPA hPB
  have hq := HQ.out
  refine wp_region_held_drew (S := (fun w' => Blk w' w.heap.size #[.int .i64 m0, .int .i64 m1, .int .i64 m2, .int .i64 m3, .int .i64 m4, .int .i64 m5, .int .i64 m6, .int .i64 m7, .int .i64 m8, .int .i64 m9, .int .i64 m10, .int .i64 m11] 25)) (by kernel_rfl) HB.out (fun hHeld => ?_)
  refine wpAnyH_take (i := 0) (oi := ({ dst := some 39, op := Op.move (Operand.tmp 7), type := 9, pos := "law.go:29", after := #[], guard := none })) (v := (.string PS)) rfl (by kernel_rfl) (by kernel_rfl) (by kernel_rfl) (fun _ _ _ h => h) (Or.inl ⟨by rfl, ?_⟩) (by assumption) ?_
  · (intro w hSw; have s0 := hSw.cell (i := 0) rfl; have s1 := hSw.cell (i := 1) rfl; have s2 := hSw.cell (i := 2) rfl; have s3 := hSw.cell (i := 3) rfl; have s4 := hSw.cell (i := 4) rfl; have s5 := hSw.cell (i := 5) rfl; have s6 := hSw.cell (i := 6) rfl; have s7 := hSw.cell (i := 7) rfl; have s8 := hSw.cell (i := 8) rfl; have s9 := hSw.cell (i := 9) rfl; have s10 := hSw.cell (i := 10) rfl; have s11 := hSw.cell (i := 11) rfl; go_simp)
  try simp only [Act.put, List.setIfInBounds_toArray, List.set_cons_zero, List.set_cons_succ]
  refine wpAnyH_take (i := 1) (oi := ({ dst := some 40, op := Op.move (Operand.tmp 9), type := 9, pos := "law.go:29", after := #[], guard := none })) (v := (.string PS)) rfl (by kernel_rfl) (by kernel_rfl) (by kernel_rfl) (fun _ _ _ h => h) (Or.inl ⟨by rfl, ?_⟩) (by assumption) ?_
  · (intro w hSw; have s0 := hSw.cell (i := 0) rfl; have s1 := hSw.cell (i := 1) rfl; have s2 := hSw.cell (i := 2) rfl; have s3 := hSw.cell (i := 3) rfl; have s4 := hSw.cell (i := 4) rfl; have s5 := hSw.cell (i := 5) rfl; have s6 := hSw.cell (i := 6) rfl; have s7 := hSw.cell (i := 7) rfl; have s8 := hSw.cell (i := 8) rfl; have s9 := hSw.cell (i := 9) rfl; have s10 := hSw.cell (i := 10) rfl; have s11 := hSw.cell (i := 11) rfl; go_simp)
  try simp only [Act.put, List.setIfInBounds_toArray, List.set_cons_zero, List.set_cons_succ]
  refine wpAnyH_take (i := 2) (oi := ({ dst := some 41, op := Op.binOp BinOp.eql 9 (Operand.tmp 39) (Operand.tmp 40) 9, type := 4, pos := "law.go:29", after := #[{ on := 0, ground := Ground.data }, { on := 1, ground := Ground.data }], guard := none })) (v := (.bool true)) rfl (by kernel_rfl) (by kernel_rfl) (by kernel_rfl) (fun _ _ _ h => h) (Or.inl ⟨by rfl, ?_⟩) (by assumption) ?_
  · (intro w hSw; have s0 := hSw.cell (i := 0) rfl; have s1 := hSw.cell (i := 1) rfl; have s2 := hSw.cell (i := 2) rfl; have s3 := hSw.cell (i := 3) rfl; have s4 := hSw.cell (i := 4) rfl; have s5 := hSw.cell (i := 5) rfl; have s6 := hSw.cell (i := 6) rfl; have s7 := hSw.cell (i := 7) rfl; have s8 := hSw.cell (i := 8) rfl; have s9 := hSw.cell (i := 9) rfl; have s10 := hSw.cell (i := 10) rfl; have s11 := hSw.cell (i := 11) rfl; go_simp)
  try simp only [Act.put, List.setIfInBounds_toArray, List.set_cons_zero, List.set_cons_succ]
  refine wpAnyH_take (i := 3) (oi := ({ dst := some 42, op := Op.move (Operand.tmp 41), type := 4, pos := "law.go:29", after := #[{ on := 2, ground := Ground.data }], guard := none })) (v := (.bool true)) rfl (by kernel_rfl) (by kernel_rfl) (by kernel_rfl) (fun _ _ _ h => h) (Or.inl ⟨by rfl, ?_⟩) (by assumption) ?_
  · (intro w hSw; have s0 := hSw.cell (i := 0) rfl; have s1 := hSw.cell (i := 1) rfl; have s2 := hSw.cell (i := 2) rfl; have s3 := hSw.cell (i := 3) rfl; have s4 := hSw.cell (i := 4) rfl; have s5 := hSw.cell (i := 5) rfl; have s6 := hSw.cell (i := 6) rfl; have s7 := hSw.cell (i := 7) rfl; have s8 := hSw.cell (i := 8) rfl; have s9 := hSw.cell (i := 9) rfl; have s10 := hSw.cell (i := 10) rfl; have s11 := hSw.cell (i := 11) rfl; go_simp)
  try simp only [Act.put, List.setIfInBounds_toArray, List.set_cons_zero, List.set_cons_succ]
  refine wpAnyH_take (i := 4) (oi := ({ dst := some 43, op := Op.move (Operand.tmp 8), type := 27, pos := "law.go:29", after := #[{ on := 3, ground := Ground.guard }], guard := some (3, true) })) (v := (.int .i64 PE)) rfl (by kernel_rfl) (by kernel_rfl) (by kernel_rfl) (fun _ _ _ h => h) (Or.inl ⟨by rfl, ?_⟩) (by assumption) ?_
  · (intro w hSw; have s0 := hSw.cell (i := 0) rfl; have s1 := hSw.cell (i := 1) rfl; have s2 := hSw.cell (i := 2) rfl; have s3 := hSw.cell (i := 3) rfl; have s4 := hSw.cell (i := 4) rfl; have s5 := hSw.cell (i := 5) rfl; have s6 := hSw.cell (i := 6) rfl; have s7 := hSw.cell (i := 7) rfl; have s8 := hSw.cell (i := 8) rfl; have s9 := hSw.cell (i := 9) rfl; have s10 := hSw.cell (i := 10) rfl; have s11 := hSw.cell (i := 11) rfl; go_simp)
  try simp only [Act.put, List.setIfInBounds_toArray, List.set_cons_zero, List.set_cons_succ]
  refine wpAnyH_take (i := 5) (oi := ({ dst := some 44, op := Op.move (Operand.tmp 10), type := 27, pos := "law.go:29", after := #[{ on := 3, ground := Ground.guard }], guard := some (3, true) })) (v := (.int .i64 PE)) rfl (by kernel_rfl) (by kernel_rfl) (by kernel_rfl) (fun _ _ _ h => h) (Or.inl ⟨by rfl, ?_⟩) (by assumption) ?_
  · (intro w hSw; have s0 := hSw.cell (i := 0) rfl; have s1 := hSw.cell (i := 1) rfl; have s2 := hSw.cell (i := 2) rfl; have s3 := hSw.cell (i := 3) rfl; have s4 := hSw.cell (i := 4) rfl; have s5 := hSw.cell (i := 5) rfl; have s6 := hSw.cell (i := 6) rfl; have s7 := hSw.cell (i := 7) rfl; have s8 := hSw.cell (i := 8) rfl; have s9 := hSw.cell (i := 9) rfl; have s10 := hSw.cell (i := 10) rfl; have s11 := hSw.cell (i := 11) rfl; go_simp)
  try simp only [Act.put, List.setIfInBounds_toArray, List.set_cons_zero, List.set_cons_succ]
  refine wpAnyH_take (i := 6) (oi := ({ dst := some 45, op := Op.binOp BinOp.eql 27 (Operand.tmp 43) (Operand.tmp 44) 27, type := 4, pos := "law.go:29", after := #[{ on := 4, ground := Ground.data }, { on := 5, ground := Ground.data }, { on := 3, ground := Ground.guard }], guard := some (3, true) })) (v := (.bool true)) rfl (by kernel_rfl) (by kernel_rfl) (by kernel_rfl) (fun _ _ _ h => h) (Or.inl ⟨by rfl, ?_⟩) (by assumption) ?_
  · (intro w hSw; have s0 := hSw.cell (i := 0) rfl; have s1 := hSw.cell (i := 1) rfl; have s2 := hSw.cell (i := 2) rfl; have s3 := hSw.cell (i := 3) rfl; have s4 := hSw.cell (i := 4) rfl; have s5 := hSw.cell (i := 5) rfl; have s6 := hSw.cell (i := 6) rfl; have s7 := hSw.cell (i := 7) rfl; have s8 := hSw.cell (i := 8) rfl; have s9 := hSw.cell (i := 9) rfl; have s10 := hSw.cell (i := 10) rfl; have s11 := hSw.cell (i := 11) rfl; go_simp)
  try simp only [Act.put, List.setIfInBounds_toArray, List.set_cons_zero, List.set_cons_succ]
  refine wpAnyH_take (i := 7) (oi := ({ dst := some 46, op := Op.pick (Operand.tmp 42) (Operand.tmp 45) (Operand.const (Value.bool false)), type := 4, pos := "law.go:29", after := #[{ on := 3, ground := Ground.data }, { on := 6, ground := Ground.data }], guard := none })) (v := (.bool true)) rfl (by kernel_rfl) (by kernel_rfl) (by kernel_rfl) (fun _ _ _ h => h) (Or.inl ⟨by rfl, ?_⟩) (by assumption) ?_
  · (intro w hSw; have s0 := hSw.cell (i := 0) rfl; have s1 := hSw.cell (i := 1) rfl; have s2 := hSw.cell (i := 2) rfl; have s3 := hSw.cell (i := 3) rfl; have s4 := hSw.cell (i := 4) rfl; have s5 := hSw.cell (i := 5) rfl; have s6 := hSw.cell (i := 6) rfl; have s7 := hSw.cell (i := 7) rfl; have s8 := hSw.cell (i := 8) rfl; have s9 := hSw.cell (i := 9) rfl; have s10 := hSw.cell (i := 10) rfl; have s11 := hSw.cell (i := 11) rfl; go_simp)
  try simp only [Act.put, List.setIfInBounds_toArray, List.set_cons_zero, List.set_cons_succ]
  refine wpAnyH_take (i := 8) (oi := ({ dst := some 47, op := Op.move (Operand.tmp 46), type := 4, pos := "law.go:29", after := #[{ on := 7, ground := Ground.data }, { on := 3, ground := Ground.chain }], guard := none })) (v := (.bool true)) rfl (by kernel_rfl) (by kernel_rfl) (by kernel_rfl) (fun _ _ _ h => h) (Or.inl ⟨by rfl, ?_⟩) (by assumption) ?_
  · (intro w hSw; have s0 := hSw.cell (i := 0) rfl; have s1 := hSw.cell (i := 1) rfl; have s2 := hSw.cell (i := 2) rfl; have s3 := hSw.cell (i := 3) rfl; have s4 := hSw.cell (i := 4) rfl; have s5 := hSw.cell (i := 5) rfl; have s6 := hSw.cell (i := 6) rfl; have s7 := hSw.cell (i := 7) rfl; have s8 := hSw.cell (i := 8) rfl; have s9 := hSw.cell (i := 9) rfl; have s10 := hSw.cell (i := 10) rfl; have s11 := hSw.cell (i := 11) rfl; go_simp)
  try simp only [Act.put, List.setIfInBounds_toArray, List.set_cons_zero, List.set_cons_succ]
  refine wpAnyH_take (i := 9) (oi := ({ dst := some 48, op := Op.load 25 (Operand.tmp 3), type := 25, pos := "law.go:29", after := #[{ on := 8, ground := Ground.guard }], guard := some (8, true) })) (v := (.agg #[.int .i64 m0, .int .i64 m1, .int .i64 m2, .int .i64 m3, .int .i64 m4, .int .i64 m5, .int .i64 m6, .int .i64 m7, .int .i64 m8, .int .i64 m9, .int .i64 m10, .int .i64 m11])) rfl (by kernel_rfl) (by kernel_rfl) (by kernel_rfl) (fun _ _ _ h => h) (Or.inl ⟨by rfl, ?_⟩) (by assumption) ?_
  · (intro w hSw; have s0 := hSw.cell (i := 0) rfl; have s1 := hSw.cell (i := 1) rfl; have s2 := hSw.cell (i := 2) rfl; have s3 := hSw.cell (i := 3) rfl; have s4 := hSw.cell (i := 4) rfl; have s5 := hSw.cell (i := 5) rfl; have s6 := hSw.cell (i := 6) rfl; have s7 := hSw.cell (i := 7) rfl; have s8 := hSw.cell (i := 8) rfl; have s9 := hSw.cell (i := 9) rfl; have s10 := hSw.cell (i := 10) rfl; have s11 := hSw.cell (i := 11) rfl; go_simp)
  try simp only [Act.put, List.setIfInBounds_toArray, List.set_cons_zero, List.set_cons_succ]
  refine wpAnyH_take (i := 11) (oi := ({ dst := some 50, op := Op.load 25 (Operand.tmp 3), type := 25, pos := "law.go:29", after := #[{ on := 8, ground := Ground.guard }], guard := some (8, true) })) (v := (.agg #[.int .i64 m0, .int .i64 m1, .int .i64 m2, .int .i64 m3, .int .i64 m4, .int .i64 m5, .int .i64 m6, .int .i64 m7, .int .i64 m8, .int .i64 m9, .int .i64 m10, .int .i64 m11])) rfl (by kernel_rfl) (by kernel_rfl) (by kernel_rfl) (fun _ _ _ h => h) (Or.inl ⟨by rfl, ?_⟩) (by assumption) ?_
  · (intro w hSw; have s0 := hSw.cell (i := 0) rfl; have s1 := hSw.cell (i := 1) rfl; have s2 := hSw.cell (i := 2) rfl; have s3 := hSw.cell (i := 3) rfl; have s4 := hSw.cell (i := 4) rfl; have s5 := hSw.cell (i := 5) rfl; have s6 := hSw.cell (i := 6) rfl; have s7 := hSw.cell (i := 7) rfl; have s8 := hSw.cell (i := 8) rfl; have s9 := hSw.cell (i := 9) rfl; have s10 := hSw.cell (i := 10) rfl; have s11 := hSw.cell (i := 11) rfl; go_simp)
  try simp only [Act.put, List.setIfInBounds_toArray, List.set_cons_zero, List.set_cons_succ]
  refine wpAnyH_ready (rs := [10]) (by kernel_rfl) (by simp) (AllReadyH.cons (o := ({ dst := some 49, op := Op.call { callee := Callee.value (Operand.func 11), args := #[Operand.tmp 48], argTypes := #[25] }, type := 27, pos := "law.go:29", after := #[{ on := 9, ground := Ground.data }, { on := 8, ground := Ground.chain }, { on := 8, ground := Ground.guard }], guard := some (8, true) })) rfl (fun K hK => ?_) AllReadyH.nil)
  go_simp
  refine (HC.out _ (HLM.out.below (Below.refl _ w6).drew)).mono ?_
  rintro e w7 ⟨rfl, hb7⟩
  have hl7 : Below w6.heap.size w6 w7 := ⟨hb7.os, hb7.tape, hb7.output, hb7.size, hb7.block⟩
  have hB7 := HB.out.below hl7 HB.out.lt
  go_wp2_with fail
  clear hHeld
  refine hK.out _ _ hB7 (fun hHeld => ?_)
  clear hK K
  try simp only [Act.put, List.setIfInBounds_toArray, List.set_cons_zero, List.set_cons_succ]
  refine wpAnyH_ready (rs := [12]) (by kernel_rfl) (by simp) (AllReadyH.cons (o := ({ dst := some 51, op := Op.call { callee := Callee.value (Operand.func 12), args := #[Operand.tmp 50], argTypes := #[25] }, type := 27, pos := "law.go:29", after := #[{ on := 11, ground := Ground.data }, { on := 10, ground := Ground.chain }, { on := 8, ground := Ground.guard }], guard := some (8, true) })) rfl (fun K hK => ?_) AllReadyH.nil)
  go_simp
  refine (HD.out _).mono ?_
  rintro e w8 ⟨rfl, hb8⟩
  have hl8 : Below w6.heap.size w6 w8 := hl7.trans (Below.mono ⟨hb8.os, hb8.tape, hb8.output, hb8.size, hb8.block⟩ hl7.size)
  have hB8 := HB.out.below hl8 HB.out.lt
  go_wp2_with fail
  clear hHeld
  refine hK.out _ _ hB8 (fun hHeld => ?_)
  clear hK K
  try simp only [Act.put, List.setIfInBounds_toArray, List.set_cons_zero, List.set_cons_succ]
  refine wpAnyH_take (i := 13) (oi := ({ dst := some 52, op := Op.binOp BinOp.eql 27 (Operand.tmp 49) (Operand.tmp 51) 27, type := 4, pos := "law.go:29", after := #[{ on := 10, ground := Ground.data }, { on := 12, ground := Ground.data }, { on := 8, ground := Ground.guard }], guard := some (8, true) })) (v := (.bool true)) rfl (by kernel_rfl) (by kernel_rfl) (by kernel_rfl) (fun _ _ _ h => h) (Or.inl ⟨by rfl, ?_⟩) (by assumption) ?_
  · (intro w hSw; have s0 := hSw.cell (i := 0) rfl; have s1 := hSw.cell (i := 1) rfl; have s2 := hSw.cell (i := 2) rfl; have s3 := hSw.cell (i := 3) rfl; have s4 := hSw.cell (i := 4) rfl; have s5 := hSw.cell (i := 5) rfl; have s6 := hSw.cell (i := 6) rfl; have s7 := hSw.cell (i := 7) rfl; have s8 := hSw.cell (i := 8) rfl; have s9 := hSw.cell (i := 9) rfl; have s10 := hSw.cell (i := 10) rfl; have s11 := hSw.cell (i := 11) rfl; go_simp)
  try simp only [Act.put, List.setIfInBounds_toArray, List.set_cons_zero, List.set_cons_succ]
  refine wpAnyH_take (i := 14) (oi := ({ dst := some 53, op := Op.pick (Operand.tmp 47) (Operand.tmp 52) (Operand.const (Value.bool false)), type := 4, pos := "law.go:29", after := #[{ on := 8, ground := Ground.data }, { on := 13, ground := Ground.data }], guard := none })) (v := (.bool true)) rfl (by kernel_rfl) (by kernel_rfl) (by kernel_rfl) (fun _ _ _ h => h) (Or.inl ⟨by rfl, ?_⟩) (by assumption) ?_
  · (intro w hSw; have s0 := hSw.cell (i := 0) rfl; have s1 := hSw.cell (i := 1) rfl; have s2 := hSw.cell (i := 2) rfl; have s3 := hSw.cell (i := 3) rfl; have s4 := hSw.cell (i := 4) rfl; have s5 := hSw.cell (i := 5) rfl; have s6 := hSw.cell (i := 6) rfl; have s7 := hSw.cell (i := 7) rfl; have s8 := hSw.cell (i := 8) rfl; have s9 := hSw.cell (i := 9) rfl; have s10 := hSw.cell (i := 10) rfl; have s11 := hSw.cell (i := 11) rfl; go_simp)
  try simp only [Act.put, List.setIfInBounds_toArray, List.set_cons_zero, List.set_cons_succ]
  refine wpAnyH_take (i := 15) (oi := ({ dst := some 54, op := Op.move (Operand.tmp 53), type := 4, pos := "law.go:29", after := #[{ on := 14, ground := Ground.data }, { on := 12, ground := Ground.chain }], guard := none })) (v := (.bool true)) rfl (by kernel_rfl) (by kernel_rfl) (by kernel_rfl) (fun _ _ _ h => h) (Or.inl ⟨by rfl, ?_⟩) (by assumption) ?_
  · (intro w hSw; have s0 := hSw.cell (i := 0) rfl; have s1 := hSw.cell (i := 1) rfl; have s2 := hSw.cell (i := 2) rfl; have s3 := hSw.cell (i := 3) rfl; have s4 := hSw.cell (i := 4) rfl; have s5 := hSw.cell (i := 5) rfl; have s6 := hSw.cell (i := 6) rfl; have s7 := hSw.cell (i := 7) rfl; have s8 := hSw.cell (i := 8) rfl; have s9 := hSw.cell (i := 9) rfl; have s10 := hSw.cell (i := 10) rfl; have s11 := hSw.cell (i := 11) rfl; go_simp)
  try simp only [Act.put, List.setIfInBounds_toArray, List.set_cons_zero, List.set_cons_succ]
  refine wpAnyH_take (i := 16) (oi := ({ dst := some 55, op := Op.load 25 (Operand.tmp 3), type := 25, pos := "law.go:29", after := #[{ on := 15, ground := Ground.guard }], guard := some (15, true) })) (v := (.agg #[.int .i64 m0, .int .i64 m1, .int .i64 m2, .int .i64 m3, .int .i64 m4, .int .i64 m5, .int .i64 m6, .int .i64 m7, .int .i64 m8, .int .i64 m9, .int .i64 m10, .int .i64 m11])) rfl (by kernel_rfl) (by kernel_rfl) (by kernel_rfl) (fun _ _ _ h => h) (Or.inl ⟨by rfl, ?_⟩) (by assumption) ?_
  · (intro w hSw; have s0 := hSw.cell (i := 0) rfl; have s1 := hSw.cell (i := 1) rfl; have s2 := hSw.cell (i := 2) rfl; have s3 := hSw.cell (i := 3) rfl; have s4 := hSw.cell (i := 4) rfl; have s5 := hSw.cell (i := 5) rfl; have s6 := hSw.cell (i := 6) rfl; have s7 := hSw.cell (i := 7) rfl; have s8 := hSw.cell (i := 8) rfl; have s9 := hSw.cell (i := 9) rfl; have s10 := hSw.cell (i := 10) rfl; have s11 := hSw.cell (i := 11) rfl; go_simp)
  try simp only [Act.put, List.setIfInBounds_toArray, List.set_cons_zero, List.set_cons_succ]
  refine wpAnyH_take (i := 18) (oi := ({ dst := some 57, op := Op.load 25 (Operand.tmp 3), type := 25, pos := "law.go:29", after := #[{ on := 15, ground := Ground.guard }], guard := some (15, true) })) (v := (.agg #[.int .i64 m0, .int .i64 m1, .int .i64 m2, .int .i64 m3, .int .i64 m4, .int .i64 m5, .int .i64 m6, .int .i64 m7, .int .i64 m8, .int .i64 m9, .int .i64 m10, .int .i64 m11])) rfl (by kernel_rfl) (by kernel_rfl) (by kernel_rfl) (fun _ _ _ h => h) (Or.inl ⟨by rfl, ?_⟩) (by assumption) ?_
  · (intro w hSw; have s0 := hSw.cell (i := 0) rfl; have s1 := hSw.cell (i := 1) rfl; have s2 := hSw.cell (i := 2) rfl; have s3 := hSw.cell (i := 3) rfl; have s4 := hSw.cell (i := 4) rfl; have s5 := hSw.cell (i := 5) rfl; have s6 := hSw.cell (i := 6) rfl; have s7 := hSw.cell (i := 7) rfl; have s8 := hSw.cell (i := 8) rfl; have s9 := hSw.cell (i := 9) rfl; have s10 := hSw.cell (i := 10) rfl; have s11 := hSw.cell (i := 11) rfl; go_simp)
  try simp only [Act.put, List.setIfInBounds_toArray, List.set_cons_zero, List.set_cons_succ]
  refine wpAnyH_ready (rs := [17]) (by kernel_rfl) (by simp) (AllReadyH.cons (o := ({ dst := some 56, op := Op.call { callee := Callee.value (Operand.func 13), args := #[Operand.tmp 55], argTypes := #[25] }, type := 25, pos := "law.go:29", after := #[{ on := 16, ground := Ground.data }, { on := 15, ground := Ground.chain }, { on := 15, ground := Ground.guard }], guard := some (15, true) })) rfl (fun K hK => ?_) AllReadyH.nil)
  go_simp
  refine (HU.out _).mono ?_
  rintro e w9 ⟨rfl, hb9⟩
  have hl9 : Below w6.heap.size w6 w9 := hl8.trans (Below.mono ⟨hb9.os, hb9.tape, hb9.output, hb9.size, hb9.block⟩ hl8.size)
  have hB9 := HB.out.below hl9 HB.out.lt
  go_wp2_with fail
  clear hHeld
  refine hK.out _ _ hB9 (fun hHeld => ?_)
  clear hK K
  try simp only [Act.put, List.setIfInBounds_toArray, List.set_cons_zero, List.set_cons_succ]
  refine wpAnyH_ready (rs := [19]) (by kernel_rfl) (by simp) (AllReadyH.cons (o := ({ dst := some 58, op := Op.call { callee := Callee.value (Operand.func 14), args := #[Operand.tmp 57], argTypes := #[25] }, type := 25, pos := "law.go:29", after := #[{ on := 18, ground := Ground.data }, { on := 17, ground := Ground.chain }, { on := 15, ground := Ground.guard }], guard := some (15, true) })) rfl (fun K hK => ?_) AllReadyH.nil)
  go_simp
  refine (HV.out _).mono ?_
  rintro e w10 ⟨rfl, hb10⟩
  have hl10 : Below w6.heap.size w6 w10 := hl9.trans (Below.mono ⟨hb10.os, hb10.tape, hb10.output, hb10.size, hb10.block⟩ hl9.size)
  have hB10 := HB.out.below hl10 HB.out.lt
  go_wp2_with fail
  clear hHeld
  refine hK.out _ _ hB10 (fun hHeld => ?_)
  clear hK K
  try simp only [Act.put, List.setIfInBounds_toArray, List.set_cons_zero, List.set_cons_succ]
  refine wpAnyH_take (i := 20) (oi := ({ dst := some 59, op := Op.binOp BinOp.eql 25 (Operand.tmp 56) (Operand.tmp 58) 25, type := 4, pos := "law.go:29", after := #[{ on := 17, ground := Ground.data }, { on := 19, ground := Ground.data }, { on := 15, ground := Ground.guard }], guard := some (15, true) })) (v := (.bool true)) rfl (by kernel_rfl) (by kernel_rfl) (by kernel_rfl) (fun _ _ _ h => h) (Or.inl ⟨by rfl, ?_⟩) (by assumption) ?_
  · (intro w hSw; have s0 := hSw.cell (i := 0) rfl; have s1 := hSw.cell (i := 1) rfl; have s2 := hSw.cell (i := 2) rfl; have s3 := hSw.cell (i := 3) rfl; have s4 := hSw.cell (i := 4) rfl; have s5 := hSw.cell (i := 5) rfl; have s6 := hSw.cell (i := 6) rfl; have s7 := hSw.cell (i := 7) rfl; have s8 := hSw.cell (i := 8) rfl; have s9 := hSw.cell (i := 9) rfl; have s10 := hSw.cell (i := 10) rfl; have s11 := hSw.cell (i := 11) rfl; go_simp)
  try simp only [Act.put, List.setIfInBounds_toArray, List.set_cons_zero, List.set_cons_succ]
  refine wpAnyH_take (i := 21) (oi := ({ dst := some 60, op := Op.pick (Operand.tmp 54) (Operand.tmp 59) (Operand.const (Value.bool false)), type := 4, pos := "law.go:29", after := #[{ on := 15, ground := Ground.data }, { on := 20, ground := Ground.data }], guard := none })) (v := (.bool true)) rfl (by kernel_rfl) (by kernel_rfl) (by kernel_rfl) (fun _ _ _ h => h) (Or.inl ⟨by rfl, ?_⟩) (by assumption) ?_
  · (intro w hSw; have s0 := hSw.cell (i := 0) rfl; have s1 := hSw.cell (i := 1) rfl; have s2 := hSw.cell (i := 2) rfl; have s3 := hSw.cell (i := 3) rfl; have s4 := hSw.cell (i := 4) rfl; have s5 := hSw.cell (i := 5) rfl; have s6 := hSw.cell (i := 6) rfl; have s7 := hSw.cell (i := 7) rfl; have s8 := hSw.cell (i := 8) rfl; have s9 := hSw.cell (i := 9) rfl; have s10 := hSw.cell (i := 10) rfl; have s11 := hSw.cell (i := 11) rfl; go_simp)
  try simp only [Act.put, List.setIfInBounds_toArray, List.set_cons_zero, List.set_cons_succ]
  refine wpAnyH_take (i := 22) (oi := ({ dst := some 61, op := Op.move (Operand.tmp 60), type := 4, pos := "law.go:29", after := #[{ on := 21, ground := Ground.data }, { on := 19, ground := Ground.chain }], guard := none })) (v := (.bool true)) rfl (by kernel_rfl) (by kernel_rfl) (by kernel_rfl) (fun _ _ _ h => h) (Or.inl ⟨by rfl, ?_⟩) (by assumption) ?_
  · (intro w hSw; have s0 := hSw.cell (i := 0) rfl; have s1 := hSw.cell (i := 1) rfl; have s2 := hSw.cell (i := 2) rfl; have s3 := hSw.cell (i := 3) rfl; have s4 := hSw.cell (i := 4) rfl; have s5 := hSw.cell (i := 5) rfl; have s6 := hSw.cell (i := 6) rfl; have s7 := hSw.cell (i := 7) rfl; have s8 := hSw.cell (i := 8) rfl; have s9 := hSw.cell (i := 9) rfl; have s10 := hSw.cell (i := 10) rfl; have s11 := hSw.cell (i := 11) rfl; go_simp)
  try simp only [Act.put, List.setIfInBounds_toArray, List.set_cons_zero, List.set_cons_succ]
  refine wpAnyH_take (i := 23) (oi := ({ dst := some 62, op := Op.move (Operand.tmp 1), type := 3, pos := "law.go:29", after := #[{ on := 22, ground := Ground.guard }], guard := some (22, true) })) (v := (.int .i64 n)) rfl (by kernel_rfl) (by kernel_rfl) (by kernel_rfl) (fun _ _ _ h => h) (Or.inl ⟨by rfl, ?_⟩) (by assumption) ?_
  · (intro w hSw; have s0 := hSw.cell (i := 0) rfl; have s1 := hSw.cell (i := 1) rfl; have s2 := hSw.cell (i := 2) rfl; have s3 := hSw.cell (i := 3) rfl; have s4 := hSw.cell (i := 4) rfl; have s5 := hSw.cell (i := 5) rfl; have s6 := hSw.cell (i := 6) rfl; have s7 := hSw.cell (i := 7) rfl; have s8 := hSw.cell (i := 8) rfl; have s9 := hSw.cell (i := 9) rfl; have s10 := hSw.cell (i := 10) rfl; have s11 := hSw.cell (i := 11) rfl; go_simp)
  try simp only [Act.put, List.setIfInBounds_toArray, List.set_cons_zero, List.set_cons_succ]
  refine wpAnyH_take (i := 25) (oi := ({ dst := some 64, op := Op.move (Operand.tmp 1), type := 3, pos := "law.go:29", after := #[{ on := 22, ground := Ground.guard }], guard := some (22, true) })) (v := (.int .i64 n)) rfl (by kernel_rfl) (by kernel_rfl) (by kernel_rfl) (fun _ _ _ h => h) (Or.inl ⟨by rfl, ?_⟩) (by assumption) ?_
  · (intro w hSw; have s0 := hSw.cell (i := 0) rfl; have s1 := hSw.cell (i := 1) rfl; have s2 := hSw.cell (i := 2) rfl; have s3 := hSw.cell (i := 3) rfl; have s4 := hSw.cell (i := 4) rfl; have s5 := hSw.cell (i := 5) rfl; have s6 := hSw.cell (i := 6) rfl; have s7 := hSw.cell (i := 7) rfl; have s8 := hSw.cell (i := 8) rfl; have s9 := hSw.cell (i := 9) rfl; have s10 := hSw.cell (i := 10) rfl; have s11 := hSw.cell (i := 11) rfl; go_simp)
  try simp only [Act.put, List.setIfInBounds_toArray, List.set_cons_zero, List.set_cons_succ]
  refine wpAnyH_ready (rs := [24]) (by kernel_rfl) (by simp) (AllReadyH.cons (o := ({ dst := some 63, op := Op.call { callee := Callee.value (Operand.func 15), args := #[Operand.tmp 62], argTypes := #[3] }, type := 3, pos := "law.go:29", after := #[{ on := 23, ground := Ground.data }, { on := 22, ground := Ground.chain }, { on := 22, ground := Ground.guard }], guard := some (22, true) })) rfl (fun K hK => ?_) AllReadyH.nil)
  go_simp
  refine (HPA.out _).mono ?_
  rintro e w' ⟨rfl, rfl⟩
  go_wp2_with fail
  clear hHeld
  refine hK.out _ _ hB10 (fun hHeld => ?_)
  clear hK K
  try simp only [Act.put, List.setIfInBounds_toArray, List.set_cons_zero, List.set_cons_succ]
  refine wpAnyH_ready (rs := [26]) (by kernel_rfl) (by simp) (AllReadyH.cons (o := ({ dst := some 65, op := Op.call { callee := Callee.value (Operand.func 16), args := #[Operand.tmp 64], argTypes := #[3] }, type := 3, pos := "law.go:29", after := #[{ on := 25, ground := Ground.data }, { on := 24, ground := Ground.chain }, { on := 22, ground := Ground.guard }], guard := some (22, true) })) rfl (fun K hK => ?_) AllReadyH.nil)
  go_simp
  refine (HPB.out _).mono ?_
  rintro e w' ⟨rfl, rfl⟩
  go_wp2_with fail
  clear hHeld
  refine hK.out _ _ hB10 (fun hHeld => ?_)
  clear hK K
  try simp only [Act.put, List.setIfInBounds_toArray, List.set_cons_zero, List.set_cons_succ]
  refine wpAnyH_take (i := 27) (oi := ({ dst := some 66, op := Op.binOp BinOp.eql 3 (Operand.tmp 63) (Operand.tmp 65) 3, type := 4, pos := "law.go:29", after := #[{ on := 24, ground := Ground.data }, { on := 26, ground := Ground.data }, { on := 22, ground := Ground.guard }], guard := some (22, true) })) (v := (.bool true)) rfl (by kernel_rfl) (by kernel_rfl) (by kernel_rfl) (fun _ _ _ h => h) (Or.inl ⟨by rfl, ?_⟩) (by assumption) ?_
  · (intro w hSw; have s0 := hSw.cell (i := 0) rfl; have s1 := hSw.cell (i := 1) rfl; have s2 := hSw.cell (i := 2) rfl; have s3 := hSw.cell (i := 3) rfl; have s4 := hSw.cell (i := 4) rfl; have s5 := hSw.cell (i := 5) rfl; have s6 := hSw.cell (i := 6) rfl; have s7 := hSw.cell (i := 7) rfl; have s8 := hSw.cell (i := 8) rfl; have s9 := hSw.cell (i := 9) rfl; have s10 := hSw.cell (i := 10) rfl; have s11 := hSw.cell (i := 11) rfl; go_simp)
  try simp only [Act.put, List.setIfInBounds_toArray, List.set_cons_zero, List.set_cons_succ]
  refine wpAnyH_take (i := 28) (oi := ({ dst := some 67, op := Op.pick (Operand.tmp 61) (Operand.tmp 66) (Operand.const (Value.bool false)), type := 4, pos := "law.go:29", after := #[{ on := 22, ground := Ground.data }, { on := 27, ground := Ground.data }], guard := none })) (v := (.bool true)) rfl (by kernel_rfl) (by kernel_rfl) (by kernel_rfl) (fun _ _ _ h => h) (Or.inl ⟨by rfl, ?_⟩) (by assumption) ?_
  · (intro w hSw; have s0 := hSw.cell (i := 0) rfl; have s1 := hSw.cell (i := 1) rfl; have s2 := hSw.cell (i := 2) rfl; have s3 := hSw.cell (i := 3) rfl; have s4 := hSw.cell (i := 4) rfl; have s5 := hSw.cell (i := 5) rfl; have s6 := hSw.cell (i := 6) rfl; have s7 := hSw.cell (i := 7) rfl; have s8 := hSw.cell (i := 8) rfl; have s9 := hSw.cell (i := 9) rfl; have s10 := hSw.cell (i := 10) rfl; have s11 := hSw.cell (i := 11) rfl; go_simp)
  try simp only [Act.put, List.setIfInBounds_toArray, List.set_cons_zero, List.set_cons_succ]
  refine wpAnyH_take (i := 29) (oi := ({ dst := some 68, op := Op.move (Operand.tmp 67), type := 4, pos := "law.go:29", after := #[{ on := 28, ground := Ground.data }, { on := 26, ground := Ground.chain }], guard := none })) (v := (.bool true)) rfl (by kernel_rfl) (by kernel_rfl) (by kernel_rfl) (fun _ _ _ h => h) (Or.inl ⟨by rfl, ?_⟩) (by assumption) ?_
  · (intro w hSw; have s0 := hSw.cell (i := 0) rfl; have s1 := hSw.cell (i := 1) rfl; have s2 := hSw.cell (i := 2) rfl; have s3 := hSw.cell (i := 3) rfl; have s4 := hSw.cell (i := 4) rfl; have s5 := hSw.cell (i := 5) rfl; have s6 := hSw.cell (i := 6) rfl; have s7 := hSw.cell (i := 7) rfl; have s8 := hSw.cell (i := 8) rfl; have s9 := hSw.cell (i := 9) rfl; have s10 := hSw.cell (i := 10) rfl; have s11 := hSw.cell (i := 11) rfl; go_simp)
  try simp only [Act.put, List.setIfInBounds_toArray, List.set_cons_zero, List.set_cons_succ]
  refine wpAnyH_take (i := 30) (oi := ({ dst := some 69, op := Op.move (Operand.tmp 1), type := 3, pos := "law.go:29", after := #[{ on := 29, ground := Ground.guard }], guard := some (29, true) })) (v := (.int .i64 n)) rfl (by kernel_rfl) (by kernel_rfl) (by kernel_rfl) (fun _ _ _ h => h) (Or.inl ⟨by rfl, ?_⟩) (by assumption) ?_
  · (intro w hSw; have s0 := hSw.cell (i := 0) rfl; have s1 := hSw.cell (i := 1) rfl; have s2 := hSw.cell (i := 2) rfl; have s3 := hSw.cell (i := 3) rfl; have s4 := hSw.cell (i := 4) rfl; have s5 := hSw.cell (i := 5) rfl; have s6 := hSw.cell (i := 6) rfl; have s7 := hSw.cell (i := 7) rfl; have s8 := hSw.cell (i := 8) rfl; have s9 := hSw.cell (i := 9) rfl; have s10 := hSw.cell (i := 10) rfl; have s11 := hSw.cell (i := 11) rfl; go_simp)
  try simp only [Act.put, List.setIfInBounds_toArray, List.set_cons_zero, List.set_cons_succ]
  refine wpAnyH_take (i := 32) (oi := ({ dst := some 71, op := Op.move (Operand.tmp 1), type := 3, pos := "law.go:29", after := #[{ on := 29, ground := Ground.guard }], guard := some (29, true) })) (v := (.int .i64 n)) rfl (by kernel_rfl) (by kernel_rfl) (by kernel_rfl) (fun _ _ _ h => h) (Or.inl ⟨by rfl, ?_⟩) (by assumption) ?_
  · (intro w hSw; have s0 := hSw.cell (i := 0) rfl; have s1 := hSw.cell (i := 1) rfl; have s2 := hSw.cell (i := 2) rfl; have s3 := hSw.cell (i := 3) rfl; have s4 := hSw.cell (i := 4) rfl; have s5 := hSw.cell (i := 5) rfl; have s6 := hSw.cell (i := 6) rfl; have s7 := hSw.cell (i := 7) rfl; have s8 := hSw.cell (i := 8) rfl; have s9 := hSw.cell (i := 9) rfl; have s10 := hSw.cell (i := 10) rfl; have s11 := hSw.cell (i := 11) rfl; go_simp)
  try simp only [Act.put, List.setIfInBounds_toArray, List.set_cons_zero, List.set_cons_succ]
  refine wpAnyH_ready (rs := [31]) (by kernel_rfl) (by simp) (AllReadyH.cons (o := ({ dst := some 70, op := Op.call { callee := Callee.value (Operand.func 17), args := #[Operand.tmp 69], argTypes := #[3] }, type := 9, pos := "law.go:29", after := #[{ on := 30, ground := Ground.data }, { on := 29, ground := Ground.chain }, { on := 29, ground := Ground.guard }], guard := some (29, true) })) rfl (fun K hK => ?_) AllReadyH.nil)
  go_simp
  refine (HNM.out _ (HLM.out.below hl10).laid).mono ?_
  rintro e w11 ⟨rfl, hb11⟩
  have hl11 : Below w6.heap.size w6 w11 := hl10.trans (Below.mono ⟨hb11.os, hb11.tape, hb11.output, hb11.size, hb11.block⟩ hl10.size)
  have hB11 := HB.out.below hl11 HB.out.lt
  go_wp2_with fail
  clear hHeld
  refine hK.out _ _ hB11 (fun hHeld => ?_)
  clear hK K
  try simp only [Act.put, List.setIfInBounds_toArray, List.set_cons_zero, List.set_cons_succ]
  refine wpAnyH_ready (rs := [33]) (by kernel_rfl) (by simp) (AllReadyH.cons (o := ({ dst := some 72, op := Op.call { callee := Callee.value (Operand.func 18), args := #[Operand.tmp 71], argTypes := #[3] }, type := 9, pos := "law.go:29", after := #[{ on := 32, ground := Ground.data }, { on := 31, ground := Ground.chain }, { on := 29, ground := Ground.guard }], guard := some (29, true) })) rfl (fun K hK => ?_) AllReadyH.nil)
  go_simp
  refine (HRM.out _).mono ?_
  rintro e w' ⟨rfl, rfl⟩
  go_wp2_with fail
  clear hHeld
  refine hK.out _ _ hB11 (fun hHeld => ?_)
  clear hK K
  try simp only [Act.put, List.setIfInBounds_toArray, List.set_cons_zero, List.set_cons_succ]
  refine wpAnyH_take (i := 34) (oi := ({ dst := some 73, op := Op.binOp BinOp.eql 9 (Operand.tmp 70) (Operand.tmp 72) 9, type := 4, pos := "law.go:29", after := #[{ on := 31, ground := Ground.data }, { on := 33, ground := Ground.data }, { on := 29, ground := Ground.guard }], guard := some (29, true) })) (v := (.bool true)) rfl (by kernel_rfl) (by kernel_rfl) (by kernel_rfl) (fun _ _ _ h => h) (Or.inl ⟨by rfl, ?_⟩) (by assumption) ?_
  · (intro w hSw; have s0 := hSw.cell (i := 0) rfl; have s1 := hSw.cell (i := 1) rfl; have s2 := hSw.cell (i := 2) rfl; have s3 := hSw.cell (i := 3) rfl; have s4 := hSw.cell (i := 4) rfl; have s5 := hSw.cell (i := 5) rfl; have s6 := hSw.cell (i := 6) rfl; have s7 := hSw.cell (i := 7) rfl; have s8 := hSw.cell (i := 8) rfl; have s9 := hSw.cell (i := 9) rfl; have s10 := hSw.cell (i := 10) rfl; have s11 := hSw.cell (i := 11) rfl; go_simp)
  try simp only [Act.put, List.setIfInBounds_toArray, List.set_cons_zero, List.set_cons_succ]
  refine wpAnyH_take (i := 35) (oi := ({ dst := some 74, op := Op.pick (Operand.tmp 68) (Operand.tmp 73) (Operand.const (Value.bool false)), type := 4, pos := "law.go:29", after := #[{ on := 29, ground := Ground.data }, { on := 34, ground := Ground.data }], guard := none })) (v := (.bool true)) rfl (by kernel_rfl) (by kernel_rfl) (by kernel_rfl) (fun _ _ _ h => h) (Or.inl ⟨by rfl, ?_⟩) (by assumption) ?_
  · (intro w hSw; have s0 := hSw.cell (i := 0) rfl; have s1 := hSw.cell (i := 1) rfl; have s2 := hSw.cell (i := 2) rfl; have s3 := hSw.cell (i := 3) rfl; have s4 := hSw.cell (i := 4) rfl; have s5 := hSw.cell (i := 5) rfl; have s6 := hSw.cell (i := 6) rfl; have s7 := hSw.cell (i := 7) rfl; have s8 := hSw.cell (i := 8) rfl; have s9 := hSw.cell (i := 9) rfl; have s10 := hSw.cell (i := 10) rfl; have s11 := hSw.cell (i := 11) rfl; go_simp)
  try simp only [Act.put, List.setIfInBounds_toArray, List.set_cons_zero, List.set_cons_succ]
  refine wpAnyH_take (i := 36) (oi := ({ dst := some 75, op := Op.move (Operand.tmp 74), type := 4, pos := "law.go:29", after := #[{ on := 35, ground := Ground.data }, { on := 33, ground := Ground.chain }], guard := none })) (v := (.bool true)) rfl (by kernel_rfl) (by kernel_rfl) (by kernel_rfl) (fun _ _ _ h => h) (Or.inl ⟨by rfl, ?_⟩) (by assumption) ?_
  · (intro w hSw; have s0 := hSw.cell (i := 0) rfl; have s1 := hSw.cell (i := 1) rfl; have s2 := hSw.cell (i := 2) rfl; have s3 := hSw.cell (i := 3) rfl; have s4 := hSw.cell (i := 4) rfl; have s5 := hSw.cell (i := 5) rfl; have s6 := hSw.cell (i := 6) rfl; have s7 := hSw.cell (i := 7) rfl; have s8 := hSw.cell (i := 8) rfl; have s9 := hSw.cell (i := 9) rfl; have s10 := hSw.cell (i := 10) rfl; have s11 := hSw.cell (i := 11) rfl; go_simp)
  try simp only [Act.put, List.setIfInBounds_toArray, List.set_cons_zero, List.set_cons_succ]
  refine wpAnyH_take (i := 37) (oi := ({ dst := some 76, op := Op.move (Operand.tmp 11), type := 3, pos := "law.go:29", after := #[{ on := 36, ground := Ground.guard }], guard := some (36, true) })) (v := (.int .i64 QN)) rfl (by kernel_rfl) (by kernel_rfl) (by kernel_rfl) (fun _ _ _ h => h) (Or.inl ⟨by rfl, ?_⟩) (by assumption) ?_
  · (intro w hSw; have s0 := hSw.cell (i := 0) rfl; have s1 := hSw.cell (i := 1) rfl; have s2 := hSw.cell (i := 2) rfl; have s3 := hSw.cell (i := 3) rfl; have s4 := hSw.cell (i := 4) rfl; have s5 := hSw.cell (i := 5) rfl; have s6 := hSw.cell (i := 6) rfl; have s7 := hSw.cell (i := 7) rfl; have s8 := hSw.cell (i := 8) rfl; have s9 := hSw.cell (i := 9) rfl; have s10 := hSw.cell (i := 10) rfl; have s11 := hSw.cell (i := 11) rfl; go_simp)
  try simp only [Act.put, List.setIfInBounds_toArray, List.set_cons_zero, List.set_cons_succ]
  refine wpAnyH_take (i := 38) (oi := ({ dst := some 77, op := Op.move (Operand.tmp 13), type := 3, pos := "law.go:29", after := #[{ on := 36, ground := Ground.guard }], guard := some (36, true) })) (v := (.int .i64 QN)) rfl (by kernel_rfl) (by kernel_rfl) (by kernel_rfl) (fun _ _ _ h => h) (Or.inl ⟨by rfl, ?_⟩) (by assumption) ?_
  · (intro w hSw; have s0 := hSw.cell (i := 0) rfl; have s1 := hSw.cell (i := 1) rfl; have s2 := hSw.cell (i := 2) rfl; have s3 := hSw.cell (i := 3) rfl; have s4 := hSw.cell (i := 4) rfl; have s5 := hSw.cell (i := 5) rfl; have s6 := hSw.cell (i := 6) rfl; have s7 := hSw.cell (i := 7) rfl; have s8 := hSw.cell (i := 8) rfl; have s9 := hSw.cell (i := 9) rfl; have s10 := hSw.cell (i := 10) rfl; have s11 := hSw.cell (i := 11) rfl; go_simp)
  try simp only [Act.put, List.setIfInBounds_toArray, List.set_cons_zero, List.set_cons_succ]
  refine wpAnyH_take (i := 39) (oi := ({ dst := some 78, op := Op.binOp BinOp.eql 3 (Operand.tmp 76) (Operand.tmp 77) 3, type := 4, pos := "law.go:29", after := #[{ on := 37, ground := Ground.data }, { on := 38, ground := Ground.data }, { on := 36, ground := Ground.guard }], guard := some (36, true) })) (v := (.bool true)) rfl (by kernel_rfl) (by kernel_rfl) (by kernel_rfl) (fun _ _ _ h => h) (Or.inl ⟨by rfl, ?_⟩) (by assumption) ?_
  · (intro w hSw; have s0 := hSw.cell (i := 0) rfl; have s1 := hSw.cell (i := 1) rfl; have s2 := hSw.cell (i := 2) rfl; have s3 := hSw.cell (i := 3) rfl; have s4 := hSw.cell (i := 4) rfl; have s5 := hSw.cell (i := 5) rfl; have s6 := hSw.cell (i := 6) rfl; have s7 := hSw.cell (i := 7) rfl; have s8 := hSw.cell (i := 8) rfl; have s9 := hSw.cell (i := 9) rfl; have s10 := hSw.cell (i := 10) rfl; have s11 := hSw.cell (i := 11) rfl; go_simp)
  try simp only [Act.put, List.setIfInBounds_toArray, List.set_cons_zero, List.set_cons_succ]
  refine wpAnyH_take (i := 40) (oi := ({ dst := some 79, op := Op.pick (Operand.tmp 75) (Operand.tmp 78) (Operand.const (Value.bool false)), type := 4, pos := "law.go:29", after := #[{ on := 36, ground := Ground.data }, { on := 39, ground := Ground.data }], guard := none })) (v := (.bool true)) rfl (by kernel_rfl) (by kernel_rfl) (by kernel_rfl) (fun _ _ _ h => h) (Or.inl ⟨by rfl, ?_⟩) (by assumption) ?_
  · (intro w hSw; have s0 := hSw.cell (i := 0) rfl; have s1 := hSw.cell (i := 1) rfl; have s2 := hSw.cell (i := 2) rfl; have s3 := hSw.cell (i := 3) rfl; have s4 := hSw.cell (i := 4) rfl; have s5 := hSw.cell (i := 5) rfl; have s6 := hSw.cell (i := 6) rfl; have s7 := hSw.cell (i := 7) rfl; have s8 := hSw.cell (i := 8) rfl; have s9 := hSw.cell (i := 9) rfl; have s10 := hSw.cell (i := 10) rfl; have s11 := hSw.cell (i := 11) rfl; go_simp)
  try simp only [Act.put, List.setIfInBounds_toArray, List.set_cons_zero, List.set_cons_succ]
  refine wpAnyH_take (i := 41) (oi := ({ dst := some 80, op := Op.move (Operand.tmp 79), type := 4, pos := "law.go:29", after := #[{ on := 40, ground := Ground.data }, { on := 36, ground := Ground.chain }], guard := none })) (v := (.bool true)) rfl (by kernel_rfl) (by kernel_rfl) (by kernel_rfl) (fun _ _ _ h => h) (Or.inl ⟨by rfl, ?_⟩) (by assumption) ?_
  · (intro w hSw; have s0 := hSw.cell (i := 0) rfl; have s1 := hSw.cell (i := 1) rfl; have s2 := hSw.cell (i := 2) rfl; have s3 := hSw.cell (i := 3) rfl; have s4 := hSw.cell (i := 4) rfl; have s5 := hSw.cell (i := 5) rfl; have s6 := hSw.cell (i := 6) rfl; have s7 := hSw.cell (i := 7) rfl; have s8 := hSw.cell (i := 8) rfl; have s9 := hSw.cell (i := 9) rfl; have s10 := hSw.cell (i := 10) rfl; have s11 := hSw.cell (i := 11) rfl; go_simp)
  try simp only [Act.put, List.setIfInBounds_toArray, List.set_cons_zero, List.set_cons_succ]
  refine wpAnyH_take (i := 42) (oi := ({ dst := some 81, op := Op.move (Operand.tmp 12), type := 4, pos := "law.go:29", after := #[{ on := 41, ground := Ground.guard }], guard := some (41, true) })) (v := (.bool QB)) rfl (by kernel_rfl) (by kernel_rfl) (by kernel_rfl) (fun _ _ _ h => h) (Or.inl ⟨by rfl, ?_⟩) (by assumption) ?_
  · (intro w hSw; have s0 := hSw.cell (i := 0) rfl; have s1 := hSw.cell (i := 1) rfl; have s2 := hSw.cell (i := 2) rfl; have s3 := hSw.cell (i := 3) rfl; have s4 := hSw.cell (i := 4) rfl; have s5 := hSw.cell (i := 5) rfl; have s6 := hSw.cell (i := 6) rfl; have s7 := hSw.cell (i := 7) rfl; have s8 := hSw.cell (i := 8) rfl; have s9 := hSw.cell (i := 9) rfl; have s10 := hSw.cell (i := 10) rfl; have s11 := hSw.cell (i := 11) rfl; go_simp)
  try simp only [Act.put, List.setIfInBounds_toArray, List.set_cons_zero, List.set_cons_succ]
  refine wpAnyH_take (i := 43) (oi := ({ dst := some 82, op := Op.move (Operand.tmp 14), type := 4, pos := "law.go:29", after := #[{ on := 41, ground := Ground.guard }], guard := some (41, true) })) (v := (.bool QB)) rfl (by kernel_rfl) (by kernel_rfl) (by kernel_rfl) (fun _ _ _ h => h) (Or.inl ⟨by rfl, ?_⟩) (by assumption) ?_
  · (intro w hSw; have s0 := hSw.cell (i := 0) rfl; have s1 := hSw.cell (i := 1) rfl; have s2 := hSw.cell (i := 2) rfl; have s3 := hSw.cell (i := 3) rfl; have s4 := hSw.cell (i := 4) rfl; have s5 := hSw.cell (i := 5) rfl; have s6 := hSw.cell (i := 6) rfl; have s7 := hSw.cell (i := 7) rfl; have s8 := hSw.cell (i := 8) rfl; have s9 := hSw.cell (i := 9) rfl; have s10 := hSw.cell (i := 10) rfl; have s11 := hSw.cell (i := 11) rfl; go_simp)
  try simp only [Act.put, List.setIfInBounds_toArray, List.set_cons_zero, List.set_cons_succ]
  refine wpAnyH_take (i := 44) (oi := ({ dst := some 83, op := Op.binOp BinOp.eql 4 (Operand.tmp 81) (Operand.tmp 82) 4, type := 4, pos := "law.go:29", after := #[{ on := 42, ground := Ground.data }, { on := 43, ground := Ground.data }, { on := 41, ground := Ground.guard }], guard := some (41, true) })) (v := (.bool true)) rfl (by kernel_rfl) (by kernel_rfl) (by kernel_rfl) (fun _ _ _ h => h) (Or.inl ⟨by rfl, ?_⟩) (by assumption) ?_
  · (intro w hSw; have s0 := hSw.cell (i := 0) rfl; have s1 := hSw.cell (i := 1) rfl; have s2 := hSw.cell (i := 2) rfl; have s3 := hSw.cell (i := 3) rfl; have s4 := hSw.cell (i := 4) rfl; have s5 := hSw.cell (i := 5) rfl; have s6 := hSw.cell (i := 6) rfl; have s7 := hSw.cell (i := 7) rfl; have s8 := hSw.cell (i := 8) rfl; have s9 := hSw.cell (i := 9) rfl; have s10 := hSw.cell (i := 10) rfl; have s11 := hSw.cell (i := 11) rfl; go_simp)
  try simp only [Act.put, List.setIfInBounds_toArray, List.set_cons_zero, List.set_cons_succ]
  refine wpAnyH_take (i := 45) (oi := ({ dst := some 84, op := Op.pick (Operand.tmp 80) (Operand.tmp 83) (Operand.const (Value.bool false)), type := 4, pos := "law.go:29", after := #[{ on := 41, ground := Ground.data }, { on := 44, ground := Ground.data }], guard := none })) (v := (.bool true)) rfl (by kernel_rfl) (by kernel_rfl) (by kernel_rfl) (fun _ _ _ h => h) (Or.inl ⟨by rfl, ?_⟩) (by assumption) ?_
  · (intro w hSw; have s0 := hSw.cell (i := 0) rfl; have s1 := hSw.cell (i := 1) rfl; have s2 := hSw.cell (i := 2) rfl; have s3 := hSw.cell (i := 3) rfl; have s4 := hSw.cell (i := 4) rfl; have s5 := hSw.cell (i := 5) rfl; have s6 := hSw.cell (i := 6) rfl; have s7 := hSw.cell (i := 7) rfl; have s8 := hSw.cell (i := 8) rfl; have s9 := hSw.cell (i := 9) rfl; have s10 := hSw.cell (i := 10) rfl; have s11 := hSw.cell (i := 11) rfl; go_simp)
  try simp only [Act.put, List.setIfInBounds_toArray, List.set_cons_zero, List.set_cons_succ]
  refine wpAnyH_take (i := 46) (oi := ({ dst := some 85, op := Op.move (Operand.tmp 84), type := 4, pos := "law.go:29", after := #[{ on := 45, ground := Ground.data }, { on := 41, ground := Ground.chain }], guard := none })) (v := (.bool true)) rfl (by kernel_rfl) (by kernel_rfl) (by kernel_rfl) (fun _ _ _ h => h) (Or.inl ⟨by rfl, ?_⟩) (by assumption) ?_
  · (intro w hSw; have s0 := hSw.cell (i := 0) rfl; have s1 := hSw.cell (i := 1) rfl; have s2 := hSw.cell (i := 2) rfl; have s3 := hSw.cell (i := 3) rfl; have s4 := hSw.cell (i := 4) rfl; have s5 := hSw.cell (i := 5) rfl; have s6 := hSw.cell (i := 6) rfl; have s7 := hSw.cell (i := 7) rfl; have s8 := hSw.cell (i := 8) rfl; have s9 := hSw.cell (i := 9) rfl; have s10 := hSw.cell (i := 10) rfl; have s11 := hSw.cell (i := 11) rfl; go_simp)
  try simp only [Act.put, List.setIfInBounds_toArray, List.set_cons_zero, List.set_cons_succ]
  refine wpAnyH_ready (rs := [47]) (by kernel_rfl) (by simp) (AllReadyH.cons (o := ({ dst := some 86, op := Op.call { callee := Callee.value (Operand.func 6), args := #[], argTypes := #[] }, type := 4, pos := "law.go:29", after := #[{ on := 46, ground := Ground.chain }, { on := 46, ground := Ground.guard }], guard := some (46, true) })) rfl (fun K hK => ?_) AllReadyH.nil)
  go_simp
  refine (awake35 _ (HLM.out.below hl11)).mono ?_
  rintro e w12 ⟨rfl, hb12⟩
  have hl12 : Below w6.heap.size w6 w12 := hl11.trans (Below.mono ⟨hb12.os, hb12.tape, hb12.output, hb12.size, hb12.block⟩ hl11.size)
  have hB12 := HB.out.below hl12 HB.out.lt
  go_wp2_with fail
  clear hHeld
  refine hK.out _ _ hB12 (fun hHeld => ?_)
  clear hK K
  try simp only [Act.put, List.setIfInBounds_toArray, List.set_cons_zero, List.set_cons_succ]
  refine wpAnyH_take (i := 48) (oi := ({ dst := some 87, op := Op.pick (Operand.tmp 85) (Operand.tmp 86) (Operand.const (Value.bool false)), type := 4, pos := "law.go:29", after := #[{ on := 46, ground := Ground.data }, { on := 47, ground := Ground.data }], guard := none })) (v := (.bool true)) rfl (by kernel_rfl) (by kernel_rfl) (by kernel_rfl) (fun _ _ _ h => h) (Or.inl ⟨by rfl, ?_⟩) (by assumption) ?_
  · (intro w hSw; have s0 := hSw.cell (i := 0) rfl; have s1 := hSw.cell (i := 1) rfl; have s2 := hSw.cell (i := 2) rfl; have s3 := hSw.cell (i := 3) rfl; have s4 := hSw.cell (i := 4) rfl; have s5 := hSw.cell (i := 5) rfl; have s6 := hSw.cell (i := 6) rfl; have s7 := hSw.cell (i := 7) rfl; have s8 := hSw.cell (i := 8) rfl; have s9 := hSw.cell (i := 9) rfl; have s10 := hSw.cell (i := 10) rfl; have s11 := hSw.cell (i := 11) rfl; go_simp)
  try simp only [Act.put, List.setIfInBounds_toArray, List.set_cons_zero, List.set_cons_succ]
  refine wpAnyH_take (i := 49) (oi := ({ dst := some 6, op := Op.assign (Operand.tmp 87), type := 4, pos := "law.go:29", after := #[{ on := 48, ground := Ground.data }, { on := 47, ground := Ground.chain }, { on := 0, ground := Ground.phase }, { on := 1, ground := Ground.phase }, { on := 2, ground := Ground.phase }, { on := 3, ground := Ground.phase }, { on := 4, ground := Ground.phase }, { on := 5, ground := Ground.phase }, { on := 6, ground := Ground.phase }, { on := 7, ground := Ground.phase }, { on := 8, ground := Ground.phase }, { on := 9, ground := Ground.phase }, { on := 10, ground := Ground.phase }, { on := 11, ground := Ground.phase }, { on := 12, ground := Ground.phase }, { on := 13, ground := Ground.phase }, { on := 14, ground := Ground.phase }, { on := 15, ground := Ground.phase }, { on := 16, ground := Ground.phase }, { on := 17, ground := Ground.phase }, { on := 18, ground := Ground.phase }, { on := 19, ground := Ground.phase }, { on := 20, ground := Ground.phase }, { on := 21, ground := Ground.phase }, { on := 22, ground := Ground.phase }, { on := 23, ground := Ground.phase }, { on := 24, ground := Ground.phase }, { on := 25, ground := Ground.phase }, { on := 26, ground := Ground.phase }, { on := 27, ground := Ground.phase }, { on := 28, ground := Ground.phase }, { on := 29, ground := Ground.phase }, { on := 30, ground := Ground.phase }, { on := 31, ground := Ground.phase }, { on := 32, ground := Ground.phase }, { on := 33, ground := Ground.phase }, { on := 34, ground := Ground.phase }, { on := 35, ground := Ground.phase }, { on := 36, ground := Ground.phase }, { on := 37, ground := Ground.phase }, { on := 38, ground := Ground.phase }, { on := 39, ground := Ground.phase }, { on := 40, ground := Ground.phase }, { on := 41, ground := Ground.phase }, { on := 42, ground := Ground.phase }, { on := 43, ground := Ground.phase }, { on := 44, ground := Ground.phase }, { on := 45, ground := Ground.phase }, { on := 46, ground := Ground.phase }, { on := 47, ground := Ground.phase }, { on := 48, ground := Ground.phase }], guard := none })) (v := (.bool true)) rfl (by kernel_rfl) (by kernel_rfl) (by kernel_rfl) (fun _ _ _ h => h) (Or.inl ⟨by rfl, ?_⟩) (by assumption) ?_
  · (intro w hSw; have s0 := hSw.cell (i := 0) rfl; have s1 := hSw.cell (i := 1) rfl; have s2 := hSw.cell (i := 2) rfl; have s3 := hSw.cell (i := 3) rfl; have s4 := hSw.cell (i := 4) rfl; have s5 := hSw.cell (i := 5) rfl; have s6 := hSw.cell (i := 6) rfl; have s7 := hSw.cell (i := 7) rfl; have s8 := hSw.cell (i := 8) rfl; have s9 := hSw.cell (i := 9) rfl; have s10 := hSw.cell (i := 10) rfl; have s11 := hSw.cell (i := 11) rfl; go_simp)
  try simp only [Act.put, List.setIfInBounds_toArray, List.set_cons_zero, List.set_cons_succ]
  refine wpAnyH_done (by kernel_rfl) ?_ _
  clear hHeld
  have HLF := Lib.hid (HL6.out.trans (hl12.mono HL6.out.size))
  go_wp2_with fail
  go_ret
  exact ⟨rfl, HLF.out⟩
end Go.Proofs.YtcibeiehdjekiaaGreatDoor
