/-
  What must come whatever the arguments are (the statements of reeve's layer 35): the walk.
-/
import Derived.Test.YtcibeiehdjekiaaGreatDoorMsgLaw
import Derived.Test.YtcibeiehdjekiaaGreatDoorMsgPut
namespace Go.Proofs.YtcibeiehdjekiaaGreatDoor
open Go.RowKit
set_option linter.unusedVariables false
set_option linter.unusedSimpArgs false

theorem aw35_check : checkM [7, 200, 2, 0, 0, 300, 0, 0, 0, 0, 0, 0] = 0 := by decide
theorem aw35_zero : checkM (bare3 0 0 0) = 5 := by decide
theorem aw35_wf : wfI [7, 200, 2, 0, 0, 300, 0, 0, 0, 0, 0, 0] := by
  intro x hx
  simp at hx
  rcases hx with rfl | rfl | rfl | rfl | rfl | rfl <;> decide
theorem aw35_bytes : putMB [7, 200, 2, 0, 0, 300, 0, 0, 0, 0, 0, 0] = [7, 200, 1, 2, 172, 2] := by
  have h : Oct.varB 300 = [172, 2] := by
    rw [Oct.varB_ge (by decide), Oct.varB_lt (by decide)]; rfl
  have h2 : Oct.varB 200 = [200, 1] := by
    rw [Oct.varB_ge (by decide), Oct.varB_lt (by decide)]; rfl
  have h3 : Oct.varB 2 = [2] := by rw [Oct.varB_lt (by decide)]; rfl
  show Oct.fixB 7 1 ++ (varAny 200 ++ (varAny 2 ++ (varAny 300 ++ []))) = _
  have e : varAny 300 = Oct.varB 300 := rfl
  have e2 : varAny 200 = Oct.varB 200 := rfl
  have e3 : varAny 2 = Oct.varB 2 := rfl
  rw [e, h, e2, h2, e3, h3]
  rfl
theorem aw35_put : putM [7, 200, 2, 0, 0, 300, 0, 0, 0, 0, 0, 0] = (sealB ⟨#[7, 200, 1, 2, 172, 2]⟩, 0) := by
  rw [putM_ok _ aw35_wf aw35_check, aw35_bytes]; rfl
theorem aw35_get : getM (sealB ⟨#[7, 200, 1, 2, 172, 2]⟩) = ([7, 200, 2, 0, 0, 300, 0, 0, 0, 0, 0, 0], 0) := by
  have h := getM_put [7, 200, 2, 0, 0, 300, 0, 0, 0, 0, 0, 0] rfl aw35_wf aw35_check
  rw [aw35_put] at h
  exact h
theorem aw35_more (b t : ByteArray) (hb : b.size ≤ 200) (ht : 0 < t.size) : getM (sealB b ++ t) = (bare3 0 0 0, 2) := by
  unfold getM
  rw [open_seal b hb t, if_neg (by simp), if_pos (by show b.size + 7 < (sealB b ++ t).size; rw [ByteArray.size_append, sealB_size]; omega)]
theorem aw35_body (b : ByteArray) (n : Nat) (hn : 3 + b.size = n) : (sealB b).extract 3 n = b := by
  have e : sealB b = (str [82] ++ longB b) ++ (b ++ sumB (longB b ++ b)) := by unfold sealB; simp only [ByteArray.append_assoc]
  have h3 : (str [82] ++ longB b).size = 3 := by rw [ByteArray.size_append, longB_size]; rfl
  rw [e]
  generalize str [82] ++ longB b = P at h3
  generalize sumB (longB b ++ b) = Q
  have hd : ((P ++ (b ++ Q)).extract 3 n).data.toList = b.data.toList := by
    rw [ByteArray.data_extract, Array.toList_extract, List.extract_eq_take_drop]
    have e1 : (P ++ (b ++ Q)).data.toList = P.data.toList ++ (b.data.toList ++ Q.data.toList) := by simp
    rw [e1, List.drop_left' (show P.data.toList.length = 3 from h3), List.take_left' (show b.data.toList.length = n - 3 by have : b.data.toList.length = b.size := rfl; omega)]
  exact ByteArray.ext (Array.toList_inj.1 hd)
theorem aw35_w15 : nameM 115 = [119, 49, 53] := by
  have h1 : placeI 115 = 2 := by decide
  unfold nameM
  rw [h1, if_neg (by decide), if_pos rfl, itoa_pos _ (by decide), show ((115 - 100 : Int)).toNat = 15 from rfl, dec_big 15 (by decide), show 15 / 10 = 1 from rfl, dec_small 1 (by decide)]
  decide
theorem aw35_parse : parseN [119, 49, 53] = (115, true) := by
  have h := place_name 115
  rw [aw35_w15] at h
  obtain ⟨h1, h2⟩ := h
  have hp : 0 < placeI 115 := by decide
  exact Prod.ext (h2 hp) (h1.2 hp)
set_option maxRecDepth 100000 in
set_option maxHeartbeats 1600000 in
theorem awake35 (w : World) (hL : LaidM w) : Calls Tryz.prog 6 #[] w fun e w' => e = .returned (.bool true) ∧ Below w.heap.size w w' := by
  have hu := Tryz.underlying25
  have hP := msg_put [7, 200, 2, 0, 0, 300, 0, 0, 0, 0, 0, 0] rfl aw35_wf
  rw [aw35_put] at hP
  have hsz := sealB_size ⟨#[7, 200, 1, 2, 172, 2]⟩
  have hsz' : (ByteArray.mk #[7, 200, 1, 2, 172, 2]).size = 6 := rfl
  rw [hsz'] at hsz
  have hbody := aw35_body ⟨#[7, 200, 1, 2, 172, 2]⟩ 9 rfl
  have hG := msg_get (sealB ⟨#[7, 200, 1, 2, 172, 2]⟩) (by rw [hsz]; decide)
  rw [aw35_get] at hG
  have hM := msg_get (sealB ⟨#[7, 200, 1, 2, 172, 2]⟩ ++ ⟨#[120]⟩) (by rw [ByteArray.size_append, hsz]; decide)
  rw [aw35_more _ _ (by decide) (by decide)] at hM
  generalize sealB ⟨#[7, 200, 1, 2, 172, 2]⟩ = S at hP hsz hbody hG hM
  have hC := msg_check (bare3 0 0 0) rfl
  rw [aw35_zero] at hC
  have hN := fun w hl => msg_name 115 w hl
  rw [aw35_w15] at hN
  have hPN := msg_parseName ⟨#[119, 49, 53]⟩ (by decide)
  rw [show parseN (ByteArray.mk #[119, 49, 53]).data.toList = (115, true) from aw35_parse] at hPN
  have hPL := fun w => msg_place 200 w
  rw [show placeI 200 = 3 by decide] at hPL
  have hq1 := eql_msg [7, 200, 2, 0, 0, 300, 0, 0, 0, 0, 0, 0] [7, 200, 2, 0, 0, 300, 0, 0, 0, 0, 0, 0] rfl rfl
  rw [decide_eq_true rfl] at hq1
  have a1 : cellsI [7, 200, 2, 0, 0, 300, 0, 0, 0, 0, 0, 0] = #[.int .i64 7, .int .i64 200, .int .i64 2, .int .i64 0, .int .i64 0, .int .i64 300, .int .i64 0, .int .i64 0, .int .i64 0, .int .i64 0, .int .i64 0, .int .i64 0] := rfl
  have a5 : cellsI (bare3 0 0 0) = #[.int .i64 0, .int .i64 0, .int .i64 0, .int .i64 0, .int .i64 0, .int .i64 0, .int .i64 0, .int .i64 0, .int .i64 0, .int .i64 0, .int .i64 0, .int .i64 0] := rfl
  have s1 : strL [119, 49, 53] = ⟨#[119, 49, 53]⟩ := rfl
  simp only [a1, a5, s1] at hP hG hM hC hq1 hN
  clear a1 a5 s1 hsz'
  have HP := Lib.hid hP
  have HG := Lib.hid hG
  have HM := Lib.hid hM
  have HC := Lib.hid hC
  have HN := Lib.hid hN
  have HPN := Lib.hid hPN
  have HPL := Lib.hid hPL
  have HL0 := Lib.hid hL
  have hadd : S.size + (ByteArray.mk #[120]).size ≤ 9223372036854775807 := by rw [hsz]; decide
  have hadd2 : S.size + 1 ≤ 9223372036854775807 := by rw [hsz]; decide
  clear hP hG hM hC hN hPN hPL hL
  go_enter Tryz.func6, Tryz.ntmps6
  go_wp2_with fail
  refine (HP.out _ (HL0.out.below ((Below.refl _ w).alloc (Nat.le_refl _) _))).mono ?_
  rintro e w1 ⟨rfl, hb1⟩
  have X1 : Hid (Blk w1 w.heap.size #[.int .i64 7, .int .i64 200, .int .i64 2, .int .i64 0, .int .i64 0, .int .i64 300, .int .i64 0, .int .i64 0, .int .i64 0, .int .i64 0, .int .i64 0, .int .i64 0] 25) := Lib.hid ((Blk.new w _ _).below hb1 (by simp))
  have L1 : Hid (Below w.heap.size w w1) := Lib.hid (((Below.refl w.heap.size w).alloc (Nat.le_refl _) _).trans (hb1.mono (by simp)))
  clear hb1
  go_wp2_with fail
  refine (HG.out _ (HL0.out.below L1.out)).mono ?_
  rintro e w2 ⟨rfl, hb2⟩
  have X2 := Lib.hid (X1.out.below hb2 X1.out.lt)
  have L2 := Lib.hid (L1.out.trans (hb2.mono L1.out.size))
  clear hb2 X1 L1
  go_wp2_with fail
  refine (HM.out _ (HL0.out.below (L2.out.alloc L2.out.size _))).mono ?_
  rintro e w3 ⟨rfl, hb3⟩
  have X3 := Lib.hid ((X2.out.alloc (.cells #[.int .i64 7, .int .i64 200, .int .i64 2, .int .i64 0, .int .i64 0, .int .i64 300, .int .i64 0, .int .i64 0, .int .i64 0, .int .i64 0, .int .i64 0, .int .i64 0] 25)).below hb3 (by have := X2.out.lt; simp; omega))
  have Y3 : Hid (Blk w3 w2.heap.size #[.int .i64 7, .int .i64 200, .int .i64 2, .int .i64 0, .int .i64 0, .int .i64 300, .int .i64 0, .int .i64 0, .int .i64 0, .int .i64 0, .int .i64 0, .int .i64 0] 25) := Lib.hid ((Blk.new w2 _ _).below hb3 (by simp))
  have L3 := Lib.hid ((L2.out.alloc L2.out.size (.cells #[.int .i64 7, .int .i64 200, .int .i64 2, .int .i64 0, .int .i64 0, .int .i64 300, .int .i64 0, .int .i64 0, .int .i64 0, .int .i64 0, .int .i64 0, .int .i64 0] 25)).trans (hb3.mono (by have := L2.out.size; simp; omega)))
  have hx := X3.out.lt
  have hy := Y3.out.lt
  clear hb3 X2 L2
  go_upto_region 5 with fail
  go_wp2_with fail
  refine (HPN.out _ (HL0.out.below (L3.out.alloc L3.out.size _)).laid).mono ?_
  rintro e w4 ⟨rfl, hb4⟩
  have XA := Lib.hid ((X3.out.alloc (.cells #[.int .i64 0, .int .i64 0, .int .i64 0, .int .i64 0, .int .i64 0, .int .i64 0, .int .i64 0, .int .i64 0, .int .i64 0, .int .i64 0, .int .i64 0, .int .i64 0] 25)).below hb4 (by simp; omega))
  have YA := Lib.hid ((Y3.out.alloc (.cells #[.int .i64 0, .int .i64 0, .int .i64 0, .int .i64 0, .int .i64 0, .int .i64 0, .int .i64 0, .int .i64 0, .int .i64 0, .int .i64 0, .int .i64 0, .int .i64 0] 25)).below hb4 (by simp; omega))
  have L4 := Lib.hid ((L3.out.alloc L3.out.size (.cells #[.int .i64 0, .int .i64 0, .int .i64 0, .int .i64 0, .int .i64 0, .int .i64 0, .int .i64 0, .int .i64 0, .int .i64 0, .int .i64 0, .int .i64 0, .int .i64 0] 25)).trans (hb4.mono (by have := L3.out.size; simp; omega)))
  have d0 := XA.out.cell (i := 0) rfl
  have e0 := YA.out.cell (i := 0) rfl
  have d1 := XA.out.cell (i := 1) rfl
  have e1 := YA.out.cell (i := 1) rfl
  have d2 := XA.out.cell (i := 2) rfl
  have e2 := YA.out.cell (i := 2) rfl
  have d3 := XA.out.cell (i := 3) rfl
  have e3 := YA.out.cell (i := 3) rfl
  have d4 := XA.out.cell (i := 4) rfl
  have e4 := YA.out.cell (i := 4) rfl
  have d5 := XA.out.cell (i := 5) rfl
  have e5 := YA.out.cell (i := 5) rfl
  have d6 := XA.out.cell (i := 6) rfl
  have e6 := YA.out.cell (i := 6) rfl
  have d7 := XA.out.cell (i := 7) rfl
  have e7 := YA.out.cell (i := 7) rfl
  have d8 := XA.out.cell (i := 8) rfl
  have e8 := YA.out.cell (i := 8) rfl
  have d9 := XA.out.cell (i := 9) rfl
  have e9 := YA.out.cell (i := 9) rfl
  have d10 := XA.out.cell (i := 10) rfl
  have e10 := YA.out.cell (i := 10) rfl
  have d11 := XA.out.cell (i := 11) rfl
  have e11 := YA.out.cell (i := 11) rfl
  clear hb4 X3 Y3 hx hy L3
  go_upto_region 6 with fail
  go_wp2_with fail
  refine (HN.out _ (HL0.out.below L4.out).laid).mono ?_
  rintro e w5 ⟨rfl, hb5⟩
  have L5 := Lib.hid (L4.out.trans (hb5.mono L4.out.size))
  clear hb5
  go_wp2_with fail
  refine (HPL.out _).mono ?_
  rintro e w6 ⟨rfl, rfl⟩
  go_wp2_with fail
  refine (HC.out _ (HL0.out.below L5.out)).mono ?_
  rintro e w7 ⟨rfl, hb7⟩
  have L7 := Lib.hid (L5.out.trans (hb7.mono L5.out.size))
  clear hb7
  go_wp2_with fail
  go_ret
  exact ⟨rfl, L7.out⟩
end Go.Proofs.YtcibeiehdjekiaaGreatDoor
