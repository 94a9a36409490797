/-
  The walk of the statement ResOrders.
-/
import Derived.Test.YtogjckengmkfiaaDoorAwake08
namespace Go.Proofs.YtogjckengmkfiaaDoor
open Go.RowKit
set_option linter.unusedVariables false
set_option linter.unusedSimpArgs false

theorem below_self {B : Nat} {w W : World} (_ : Below B w W) : Below W.heap.size W W := Below.refl _ _
set_option maxRecDepth 100000 in
set_option maxHeartbeats 12800000 in
theorem walk_ro (a0 a1 a2 b0 b1 b2 c0 c1 c2 : Int) (w : World) (hL : Laid w) : Calls Tryd.prog 12 #[.agg #[.int .i64 a0, .int .i64 a1, .int .i64 a2], .agg #[.int .i64 b0, .int .i64 b1, .int .i64 b2], .agg #[.int .i64 c0, .int .i64 c1, .int .i64 c2]] w fun e w' => e = .returned (.bool true) ∧ Below w.heap.size w w' := by
  have AW := Lib.hid awake08
  have h1 := res_most [a0, a1, a2] [b0, b1, b2] rfl rfl
  have h2 := res_most [b0, b1, b2] [a0, a1, a2] rfl rfl
  rw [← most_comm [a0, a1, a2] [b0, b1, b2] rfl rfl] at h2
  have h3 := res_most [a0, a1, a2] [a0, a1, a2] rfl rfl
  rw [most_self [a0, a1, a2] rfl] at h3
  have hl := mostL_length [a0, a1, a2] [b0, b1, b2] rfl rfl
  have hmf := most_fits [a0, a1, a2] [b0, b1, b2] rfl rfl
  have hml := most_least [a0, a1, a2] [b0, b1, b2] [c0, c1, c2] rfl rfl rfl
  have h4 := res_fits [a0, a1, a2] (mostL [a0, a1, a2] [b0, b1, b2]) rfl hl
  have h5 := res_fits [b0, b1, b2] (mostL [a0, a1, a2] [b0, b1, b2]) rfl hl
  have h6 := res_fits (mostL [a0, a1, a2] [b0, b1, b2]) [c0, c1, c2] hl rfl
  rw [hmf.1] at h4
  rw [hmf.2] at h5
  generalize mostL [a0, a1, a2] [b0, b1, b2] = R1 at h1 h2 hl hml h4 h5 h6
  obtain ⟨z0, z1, z2, rfl⟩ := three_of hl
  have h7 := res_fits [a0, a1, a2] [c0, c1, c2] rfl rfl
  have h8 := res_fits [b0, b1, b2] [c0, c1, c2] rfl rfl
  generalize fitsB [a0, a1, a2] [c0, c1, c2] = f1 at h7 hml
  generalize fitsB [b0, b1, b2] [c0, c1, c2] = f2 at h8 hml
  generalize fitsB [z0, z1, z2] [c0, c1, c2] = f3 at h6 hml
  have h9 := res_less [a0, a1, a2] [b0, b1, b2] rfl rfl
  have h10 := res_less [b0, b1, b2] [c0, c1, c2] rfl rfl
  have h11 := res_less [a0, a1, a2] [c0, c1, c2] rfl rfl
  have hlt := less_trans [a0, a1, a2] [b0, b1, b2] [c0, c1, c2] rfl rfl rfl
  generalize lessB [a0, a1, a2] [b0, b1, b2] = l1 at h9 hlt
  generalize lessB [b0, b1, b2] [c0, c1, c2] = l2 at h10 hlt
  generalize lessB [a0, a1, a2] [c0, c1, c2] = l3 at h11 hlt
  have HM1 := Lib.hid (fun (w : World) => show Calls Tryd.prog 53 #[.agg #[.int .i64 a0, .int .i64 a1, .int .i64 a2], .agg #[.int .i64 b0, .int .i64 b1, .int .i64 b2]] w fun e w' => e = .returned (.agg #[.int .i64 z0, .int .i64 z1, .int .i64 z2]) ∧ Below w.heap.size w w' from h1 w)
  have HM2 := Lib.hid (fun (w : World) => show Calls Tryd.prog 53 #[.agg #[.int .i64 b0, .int .i64 b1, .int .i64 b2], .agg #[.int .i64 a0, .int .i64 a1, .int .i64 a2]] w fun e w' => e = .returned (.agg #[.int .i64 z0, .int .i64 z1, .int .i64 z2]) ∧ Below w.heap.size w w' from h2 w)
  have HM3 := Lib.hid (fun (w : World) => show Calls Tryd.prog 53 #[.agg #[.int .i64 a0, .int .i64 a1, .int .i64 a2], .agg #[.int .i64 a0, .int .i64 a1, .int .i64 a2]] w fun e w' => e = .returned (.agg #[.int .i64 a0, .int .i64 a1, .int .i64 a2]) ∧ Below w.heap.size w w' from h3 w)
  have HF4 := Lib.hid (fun (w : World) => show Calls Tryd.prog 49 #[.agg #[.int .i64 a0, .int .i64 a1, .int .i64 a2], .agg #[.int .i64 z0, .int .i64 z1, .int .i64 z2]] w fun e w' => e = .returned (.bool true) ∧ Below w.heap.size w w' from h4 w)
  have HF5 := Lib.hid (fun (w : World) => show Calls Tryd.prog 49 #[.agg #[.int .i64 b0, .int .i64 b1, .int .i64 b2], .agg #[.int .i64 z0, .int .i64 z1, .int .i64 z2]] w fun e w' => e = .returned (.bool true) ∧ Below w.heap.size w w' from h5 w)
  have HF6 := Lib.hid (fun (w : World) => show Calls Tryd.prog 49 #[.agg #[.int .i64 z0, .int .i64 z1, .int .i64 z2], .agg #[.int .i64 c0, .int .i64 c1, .int .i64 c2]] w fun e w' => e = .returned (.bool f3) ∧ Below w.heap.size w w' from h6 w)
  have HF7 := Lib.hid (fun (w : World) => show Calls Tryd.prog 49 #[.agg #[.int .i64 a0, .int .i64 a1, .int .i64 a2], .agg #[.int .i64 c0, .int .i64 c1, .int .i64 c2]] w fun e w' => e = .returned (.bool f1) ∧ Below w.heap.size w w' from h7 w)
  have HF8 := Lib.hid (fun (w : World) => show Calls Tryd.prog 49 #[.agg #[.int .i64 b0, .int .i64 b1, .int .i64 b2], .agg #[.int .i64 c0, .int .i64 c1, .int .i64 c2]] w fun e w' => e = .returned (.bool f2) ∧ Below w.heap.size w w' from h8 w)
  have HL9 := Lib.hid (fun (w : World) => show Calls Tryd.prog 51 #[.agg #[.int .i64 a0, .int .i64 a1, .int .i64 a2], .agg #[.int .i64 b0, .int .i64 b1, .int .i64 b2]] w fun e w' => e = .returned (.bool l1) ∧ Below w.heap.size w w' from h9 w)
  have HL10 := Lib.hid (fun (w : World) => show Calls Tryd.prog 51 #[.agg #[.int .i64 b0, .int .i64 b1, .int .i64 b2], .agg #[.int .i64 c0, .int .i64 c1, .int .i64 c2]] w fun e w' => e = .returned (.bool l2) ∧ Below w.heap.size w w' from h10 w)
  have HL11 := Lib.hid (fun (w : World) => show Calls Tryd.prog 51 #[.agg #[.int .i64 a0, .int .i64 a1, .int .i64 a2], .agg #[.int .i64 c0, .int .i64 c1, .int .i64 c2]] w fun e w' => e = .returned (.bool l3) ∧ Below w.heap.size w w' from h11 w)
  have HML := Lib.hid hml
  have HLT := Lib.hid hlt
  have q1 : ∀ w, (binOp .eql 53 (.agg #[.int .i64 z0, .int .i64 z1, .int .i64 z2]) (.agg #[.int .i64 z0, .int .i64 z1, .int .i64 z2])).run Tryd.prog w = .ok (.bool true) w := fun w => eql_same [z0, z1, z2] rfl w
  have q2 : ∀ w, (binOp .eql 53 (.agg #[.int .i64 a0, .int .i64 a1, .int .i64 a2]) (.agg #[.int .i64 a0, .int .i64 a1, .int .i64 a2])).run Tryd.prog w = .ok (.bool true) w := fun w => eql_same [a0, a1, a2] rfl w
  clear h1 h2 h3 h4 h5 h6 h7 h8 h9 h10 h11 hl hml hmf hlt
  obtain ⟨n, hn⟩ : ∃ n, w.heap.size = n := ⟨_, rfl⟩
  obtain ⟨W, hW⟩ : ∃ W, ((w.alloc (.cells #[.int .i64 a0, .int .i64 a1, .int .i64 a2] 53)).alloc (.cells #[.int .i64 b0, .int .i64 b1, .int .i64 b2] 53)).alloc (.cells #[.int .i64 c0, .int .i64 c1, .int .i64 c2] 53) = W := ⟨_, rfl⟩
  obtain ⟨kA, kB, kC, kl, kz⟩ := three_boxes w n hn _ _ _ _ W hW
  have KA := Lib.hid kA
  have KB := Lib.hid kB
  have KC := Lib.hid kC
  have KL := Lib.hid kl
  have LL := Lib.hid (hL.below (hn ▸ kl))
  have HW := Lib.hid hW
  have HN := Lib.hid hn
  rw [hn]
  clear hW kl kz kA kB kC hL
  go_enter Tryd.func12, Tryd.ntmps12
  go_upto_region 1 with fail
  rw [HW.out]
  try rw [HN.out]
  clear HW
  have Ad0 := KA.out.cell (i := 0) rfl
  have Ad1 := KA.out.cell (i := 1) rfl
  have Ad2 := KA.out.cell (i := 2) rfl
  have Bd0 := KB.out.cell (i := 0) rfl
  have Bd1 := KB.out.cell (i := 1) rfl
  have Bd2 := KB.out.cell (i := 2) rfl
  go_wp2_with fail
  refine (HM1.out _).mono ?_
  rintro e w1 ⟨rfl, hb⟩
  replace KA := Lib.hid (KA.out.below hb KA.out.lt)
  replace KB := Lib.hid (KB.out.below hb KB.out.lt)
  replace KC := Lib.hid (KC.out.below hb KC.out.lt)
  replace KL := Lib.hid (KL.out.trans (hb.mono (by have := KL.out.size; have := HN.out; omega)))
  replace LL := Lib.hid (LL.out.below hb)
  clear hb
  clear Ad0 Ad1 Ad2 Bd0 Bd1 Bd2
  obtain ⟨m1, hm⟩ : ∃ m, w1.heap.size = m := ⟨_, rfl⟩
  have KN := Blk.new w1 #[.int .i64 z0, .int .i64 z1, .int .i64 z2] 53
  rw [hm] at KN
  replace KA := Lib.hid (KA.out.alloc (.cells #[.int .i64 z0, .int .i64 z1, .int .i64 z2] 53))
  replace KB := Lib.hid (KB.out.alloc (.cells #[.int .i64 z0, .int .i64 z1, .int .i64 z2] 53))
  replace KC := Lib.hid (KC.out.alloc (.cells #[.int .i64 z0, .int .i64 z1, .int .i64 z2] 53))
  replace LL := Lib.hid (LL.out.below ((Below.refl _ _).alloc (Nat.le_refl _) (.cells #[.int .i64 z0, .int .i64 z1, .int .i64 z2] 53)))
  replace KL := Lib.hid (KL.out.alloc (by have := KL.out.size; have := HN.out; omega) (.cells #[.int .i64 z0, .int .i64 z1, .int .i64 z2] 53))
  go_upto_region 2 with fail
  obtain ⟨W1, hW⟩ : ∃ W, w1.alloc (.cells #[.int .i64 z0, .int .i64 z1, .int .i64 z2] 53) = W := ⟨_, rfl⟩
  rw [hW] at KN KA KB KC KL LL ⊢
  try rw [hm]
  have KM := Lib.hid KN
  clear KN hW hm
  go_cut [36] (fun v36 wx => v36 = .bool false ∧ Hid (Blk wx n #[.int .i64 a0, .int .i64 a1, .int .i64 a2] 53) ∧ Hid (Blk wx (n + 1) #[.int .i64 b0, .int .i64 b1, .int .i64 b2] 53) ∧ Hid (Blk wx (n + 1 + 1) #[.int .i64 c0, .int .i64 c1, .int .i64 c2] 53) ∧ Hid (Blk wx m1 #[.int .i64 z0, .int .i64 z1, .int .i64 z2] 53) ∧ Hid (Below n w wx) ∧ Hid (Laid wx))
  case first =>
    cases l1 with
    | false =>
      have Ad0 := KA.out.cell (i := 0) rfl
      have Ad1 := KA.out.cell (i := 1) rfl
      have Ad2 := KA.out.cell (i := 2) rfl
      have Bd0 := KB.out.cell (i := 0) rfl
      have Bd1 := KB.out.cell (i := 1) rfl
      have Bd2 := KB.out.cell (i := 2) rfl
      go_wp2_with fail
      refine (HL9.out _).mono ?_
      rintro e w2 ⟨rfl, hb⟩
      replace KA := Lib.hid (KA.out.below hb KA.out.lt)
      replace KB := Lib.hid (KB.out.below hb KB.out.lt)
      replace KC := Lib.hid (KC.out.below hb KC.out.lt)
      replace KM := Lib.hid (KM.out.below hb KM.out.lt)
      replace KL := Lib.hid (KL.out.trans (hb.mono (by have := KL.out.size; have := HN.out; omega)))
      replace LL := Lib.hid (LL.out.below hb)
      clear hb
      clear Ad0 Ad1 Ad2 Bd0 Bd1 Bd2
      have Ad0 := KA.out.cell (i := 0) rfl
      have Ad1 := KA.out.cell (i := 1) rfl
      have Ad2 := KA.out.cell (i := 2) rfl
      have Md0 := KM.out.cell (i := 0) rfl
      have Md1 := KM.out.cell (i := 1) rfl
      have Md2 := KM.out.cell (i := 2) rfl
      go_wp2_with fail
      refine (HF4.out _).mono ?_
      rintro e w3 ⟨rfl, hb⟩
      replace KA := Lib.hid (KA.out.below hb KA.out.lt)
      replace KB := Lib.hid (KB.out.below hb KB.out.lt)
      replace KC := Lib.hid (KC.out.below hb KC.out.lt)
      replace KM := Lib.hid (KM.out.below hb KM.out.lt)
      replace KL := Lib.hid (KL.out.trans (hb.mono (by have := KL.out.size; have := HN.out; omega)))
      replace LL := Lib.hid (LL.out.below hb)
      clear hb
      clear Ad0 Ad1 Ad2 Md0 Md1 Md2
      have Bd0 := KB.out.cell (i := 0) rfl
      have Bd1 := KB.out.cell (i := 1) rfl
      have Bd2 := KB.out.cell (i := 2) rfl
      have Md0 := KM.out.cell (i := 0) rfl
      have Md1 := KM.out.cell (i := 1) rfl
      have Md2 := KM.out.cell (i := 2) rfl
      go_wp2_with fail
      refine (HF5.out _).mono ?_
      rintro e w4 ⟨rfl, hb⟩
      replace KA := Lib.hid (KA.out.below hb KA.out.lt)
      replace KB := Lib.hid (KB.out.below hb KB.out.lt)
      replace KC := Lib.hid (KC.out.below hb KC.out.lt)
      replace KM := Lib.hid (KM.out.below hb KM.out.lt)
      replace KL := Lib.hid (KL.out.trans (hb.mono (by have := KL.out.size; have := HN.out; omega)))
      replace LL := Lib.hid (LL.out.below hb)
      clear hb
      clear Bd0 Bd1 Bd2 Md0 Md1 Md2
      go_wp2_with fail
      go_meet
      exact ⟨rfl, KA, KB, KC, KM, KL, LL⟩
    | true =>
      cases l2 with
      | false =>
        have Ad0 := KA.out.cell (i := 0) rfl
        have Ad1 := KA.out.cell (i := 1) rfl
        have Ad2 := KA.out.cell (i := 2) rfl
        have Bd0 := KB.out.cell (i := 0) rfl
        have Bd1 := KB.out.cell (i := 1) rfl
        have Bd2 := KB.out.cell (i := 2) rfl
        go_wp2_with fail
        refine (HL9.out _).mono ?_
        rintro e w2 ⟨rfl, hb⟩
        replace KA := Lib.hid (KA.out.below hb KA.out.lt)
        replace KB := Lib.hid (KB.out.below hb KB.out.lt)
        replace KC := Lib.hid (KC.out.below hb KC.out.lt)
        replace KM := Lib.hid (KM.out.below hb KM.out.lt)
        replace KL := Lib.hid (KL.out.trans (hb.mono (by have := KL.out.size; have := HN.out; omega)))
        replace LL := Lib.hid (LL.out.below hb)
        clear hb
        clear Ad0 Ad1 Ad2 Bd0 Bd1 Bd2
        have Bd0 := KB.out.cell (i := 0) rfl
        have Bd1 := KB.out.cell (i := 1) rfl
        have Bd2 := KB.out.cell (i := 2) rfl
        have Cd0 := KC.out.cell (i := 0) rfl
        have Cd1 := KC.out.cell (i := 1) rfl
        have Cd2 := KC.out.cell (i := 2) rfl
        go_wp2_with fail
        refine (HL10.out _).mono ?_
        rintro e w3 ⟨rfl, hb⟩
        replace KA := Lib.hid (KA.out.below hb KA.out.lt)
        replace KB := Lib.hid (KB.out.below hb KB.out.lt)
        replace KC := Lib.hid (KC.out.below hb KC.out.lt)
        replace KM := Lib.hid (KM.out.below hb KM.out.lt)
        replace KL := Lib.hid (KL.out.trans (hb.mono (by have := KL.out.size; have := HN.out; omega)))
        replace LL := Lib.hid (LL.out.below hb)
        clear hb
        clear Bd0 Bd1 Bd2 Cd0 Cd1 Cd2
        have Ad0 := KA.out.cell (i := 0) rfl
        have Ad1 := KA.out.cell (i := 1) rfl
        have Ad2 := KA.out.cell (i := 2) rfl
        have Md0 := KM.out.cell (i := 0) rfl
        have Md1 := KM.out.cell (i := 1) rfl
        have Md2 := KM.out.cell (i := 2) rfl
        go_wp2_with fail
        refine (HF4.out _).mono ?_
        rintro e w4 ⟨rfl, hb⟩
        replace KA := Lib.hid (KA.out.below hb KA.out.lt)
        replace KB := Lib.hid (KB.out.below hb KB.out.lt)
        replace KC := Lib.hid (KC.out.below hb KC.out.lt)
        replace KM := Lib.hid (KM.out.below hb KM.out.lt)
        replace KL := Lib.hid (KL.out.trans (hb.mono (by have := KL.out.size; have := HN.out; omega)))
        replace LL := Lib.hid (LL.out.below hb)
        clear hb
        clear Ad0 Ad1 Ad2 Md0 Md1 Md2
        have Bd0 := KB.out.cell (i := 0) rfl
        have Bd1 := KB.out.cell (i := 1) rfl
        have Bd2 := KB.out.cell (i := 2) rfl
        have Md0 := KM.out.cell (i := 0) rfl
        have Md1 := KM.out.cell (i := 1) rfl
        have Md2 := KM.out.cell (i := 2) rfl
        go_wp2_with fail
        refine (HF5.out _).mono ?_
        rintro e w5 ⟨rfl, hb⟩
        replace KA := Lib.hid (KA.out.below hb KA.out.lt)
        replace KB := Lib.hid (KB.out.below hb KB.out.lt)
        replace KC := Lib.hid (KC.out.below hb KC.out.lt)
        replace KM := Lib.hid (KM.out.below hb KM.out.lt)
        replace KL := Lib.hid (KL.out.trans (hb.mono (by have := KL.out.size; have := HN.out; omega)))
        replace LL := Lib.hid (LL.out.below hb)
        clear hb
        clear Bd0 Bd1 Bd2 Md0 Md1 Md2
        go_wp2_with fail
        go_meet
        exact ⟨rfl, KA, KB, KC, KM, KL, LL⟩
      | true =>
        obtain rfl : l3 = true := HLT.out (by first | rfl | trivial) (by first | rfl | trivial)
        have Ad0 := KA.out.cell (i := 0) rfl
        have Ad1 := KA.out.cell (i := 1) rfl
        have Ad2 := KA.out.cell (i := 2) rfl
        have Bd0 := KB.out.cell (i := 0) rfl
        have Bd1 := KB.out.cell (i := 1) rfl
        have Bd2 := KB.out.cell (i := 2) rfl
        go_wp2_with fail
        refine (HL9.out _).mono ?_
        rintro e w2 ⟨rfl, hb⟩
        replace KA := Lib.hid (KA.out.below hb KA.out.lt)
        replace KB := Lib.hid (KB.out.below hb KB.out.lt)
        replace KC := Lib.hid (KC.out.below hb KC.out.lt)
        replace KM := Lib.hid (KM.out.below hb KM.out.lt)
        replace KL := Lib.hid (KL.out.trans (hb.mono (by have := KL.out.size; have := HN.out; omega)))
        replace LL := Lib.hid (LL.out.below hb)
        clear hb
        clear Ad0 Ad1 Ad2 Bd0 Bd1 Bd2
        have Bd0 := KB.out.cell (i := 0) rfl
        have Bd1 := KB.out.cell (i := 1) rfl
        have Bd2 := KB.out.cell (i := 2) rfl
        have Cd0 := KC.out.cell (i := 0) rfl
        have Cd1 := KC.out.cell (i := 1) rfl
        have Cd2 := KC.out.cell (i := 2) rfl
        go_wp2_with fail
        refine (HL10.out _).mono ?_
        rintro e w3 ⟨rfl, hb⟩
        replace KA := Lib.hid (KA.out.below hb KA.out.lt)
        replace KB := Lib.hid (KB.out.below hb KB.out.lt)
        replace KC := Lib.hid (KC.out.below hb KC.out.lt)
        replace KM := Lib.hid (KM.out.below hb KM.out.lt)
        replace KL := Lib.hid (KL.out.trans (hb.mono (by have := KL.out.size; have := HN.out; omega)))
        replace LL := Lib.hid (LL.out.below hb)
        clear hb
        clear Bd0 Bd1 Bd2 Cd0 Cd1 Cd2
        have Ad0 := KA.out.cell (i := 0) rfl
        have Ad1 := KA.out.cell (i := 1) rfl
        have Ad2 := KA.out.cell (i := 2) rfl
        have Cd0 := KC.out.cell (i := 0) rfl
        have Cd1 := KC.out.cell (i := 1) rfl
        have Cd2 := KC.out.cell (i := 2) rfl
        go_wp2_with fail
        refine (HL11.out _).mono ?_
        rintro e w4 ⟨rfl, hb⟩
        replace KA := Lib.hid (KA.out.below hb KA.out.lt)
        replace KB := Lib.hid (KB.out.below hb KB.out.lt)
        replace KC := Lib.hid (KC.out.below hb KC.out.lt)
        replace KM := Lib.hid (KM.out.below hb KM.out.lt)
        replace KL := Lib.hid (KL.out.trans (hb.mono (by have := KL.out.size; have := HN.out; omega)))
        replace LL := Lib.hid (LL.out.below hb)
        clear hb
        clear Ad0 Ad1 Ad2 Cd0 Cd1 Cd2
        have Ad0 := KA.out.cell (i := 0) rfl
        have Ad1 := KA.out.cell (i := 1) rfl
        have Ad2 := KA.out.cell (i := 2) rfl
        have Md0 := KM.out.cell (i := 0) rfl
        have Md1 := KM.out.cell (i := 1) rfl
        have Md2 := KM.out.cell (i := 2) rfl
        go_wp2_with fail
        refine (HF4.out _).mono ?_
        rintro e w5 ⟨rfl, hb⟩
        replace KA := Lib.hid (KA.out.below hb KA.out.lt)
        replace KB := Lib.hid (KB.out.below hb KB.out.lt)
        replace KC := Lib.hid (KC.out.below hb KC.out.lt)
        replace KM := Lib.hid (KM.out.below hb KM.out.lt)
        replace KL := Lib.hid (KL.out.trans (hb.mono (by have := KL.out.size; have := HN.out; omega)))
        replace LL := Lib.hid (LL.out.below hb)
        clear hb
        clear Ad0 Ad1 Ad2 Md0 Md1 Md2
        have Bd0 := KB.out.cell (i := 0) rfl
        have Bd1 := KB.out.cell (i := 1) rfl
        have Bd2 := KB.out.cell (i := 2) rfl
        have Md0 := KM.out.cell (i := 0) rfl
        have Md1 := KM.out.cell (i := 1) rfl
        have Md2 := KM.out.cell (i := 2) rfl
        go_wp2_with fail
        refine (HF5.out _).mono ?_
        rintro e w6 ⟨rfl, hb⟩
        replace KA := Lib.hid (KA.out.below hb KA.out.lt)
        replace KB := Lib.hid (KB.out.below hb KB.out.lt)
        replace KC := Lib.hid (KC.out.below hb KC.out.lt)
        replace KM := Lib.hid (KM.out.below hb KM.out.lt)
        replace KL := Lib.hid (KL.out.trans (hb.mono (by have := KL.out.size; have := HN.out; omega)))
        replace LL := Lib.hid (LL.out.below hb)
        clear hb
        clear Bd0 Bd1 Bd2 Md0 Md1 Md2
        go_wp2_with fail
        go_meet
        exact ⟨rfl, KA, KB, KC, KM, KL, LL⟩
  case rest =>
    obtain ⟨rfl, KA, KB, KC, KM, KL, LL⟩ := hcut
    go_upto_region 4 with fail
    cases f1 with
    | false =>
      skip
      have Ad0 := KA.out.cell (i := 0) rfl
      have Ad1 := KA.out.cell (i := 1) rfl
      have Ad2 := KA.out.cell (i := 2) rfl
      have Bd0 := KB.out.cell (i := 0) rfl
      have Bd1 := KB.out.cell (i := 1) rfl
      have Bd2 := KB.out.cell (i := 2) rfl
      have Cd0 := KC.out.cell (i := 0) rfl
      have Cd1 := KC.out.cell (i := 1) rfl
      have Cd2 := KC.out.cell (i := 2) rfl
      have Md0 := KM.out.cell (i := 0) rfl
      have Md1 := KM.out.cell (i := 1) rfl
      have Md2 := KM.out.cell (i := 2) rfl
      have Al := KA.out.lt
      have Bl := KB.out.lt
      have Cl := KC.out.lt
      have Ml := KM.out.lt
      have hw := below_self KL.out
      refine wp_region_held_drew (S := (fun w' => w'.cell? ⟨n, 0, none⟩ = some (.int .i64 a0) ∧ w'.cell? ⟨n, 1, none⟩ = some (.int .i64 a1) ∧ w'.cell? ⟨n, 2, none⟩ = some (.int .i64 a2) ∧ w'.cell? ⟨(n + 1), 0, none⟩ = some (.int .i64 b0) ∧ w'.cell? ⟨(n + 1), 1, none⟩ = some (.int .i64 b1) ∧ w'.cell? ⟨(n + 1), 2, none⟩ = some (.int .i64 b2) ∧ w'.cell? ⟨((n + 1) + 1), 0, none⟩ = some (.int .i64 c0) ∧ w'.cell? ⟨((n + 1) + 1), 1, none⟩ = some (.int .i64 c1) ∧ w'.cell? ⟨((n + 1) + 1), 2, none⟩ = some (.int .i64 c2) ∧ w'.cell? ⟨m1, 0, none⟩ = some (.int .i64 z0) ∧ w'.cell? ⟨m1, 1, none⟩ = some (.int .i64 z1) ∧ w'.cell? ⟨m1, 2, none⟩ = some (.int .i64 z2))) (by kernel_rfl) ⟨KA.out.drew.cell (i := 0) rfl, KA.out.drew.cell (i := 1) rfl, KA.out.drew.cell (i := 2) rfl, KB.out.drew.cell (i := 0) rfl, KB.out.drew.cell (i := 1) rfl, KB.out.drew.cell (i := 2) rfl, KC.out.drew.cell (i := 0) rfl, KC.out.drew.cell (i := 1) rfl, KC.out.drew.cell (i := 2) rfl, KM.out.drew.cell (i := 0) rfl, KM.out.drew.cell (i := 1) rfl, KM.out.drew.cell (i := 2) rfl⟩ (fun hHeld => ?_)
      refine wpAnyH_take (i := 0) (oi := ({ dst := some 37, op := Op.load 53 (Operand.tmp 3), type := 53, pos := "law.go:64", after := #[], guard := none })) (v := (.agg #[.int .i64 a0, .int .i64 a1, .int .i64 a2])) rfl (by kernel_rfl) (by kernel_rfl) (by kernel_rfl) (fun _ _ _ h => h) (Or.inl ⟨by rfl, ?_⟩) (by assumption) ?_
      · (intro w hSw; (try dsimp only at hSw); go_simp)
      try simp only [Act.put, List.setIfInBounds_toArray, List.set_cons_zero, List.set_cons_succ]
      refine wpAnyH_take (i := 1) (oi := ({ dst := some 38, op := Op.load 53 (Operand.tmp 5), type := 53, pos := "law.go:64", after := #[], guard := none })) (v := (.agg #[.int .i64 c0, .int .i64 c1, .int .i64 c2])) rfl (by kernel_rfl) (by kernel_rfl) (by kernel_rfl) (fun _ _ _ h => h) (Or.inl ⟨by rfl, ?_⟩) (by assumption) ?_
      · (intro w hSw; (try dsimp only at hSw); go_simp)
      try simp only [Act.put, List.setIfInBounds_toArray, List.set_cons_zero, List.set_cons_succ]
      refine wpAnyH_ready (rs := [2]) (by kernel_rfl) (by simp) (AllReadyH.cons (o := ({ dst := some 39, op := Op.call { callee := Callee.value (Operand.func 49), args := #[Operand.tmp 37, Operand.tmp 38], argTypes := #[53, 53] }, type := 4, pos := "law.go:64", after := #[{ on := 0, ground := Ground.data }, { on := 1, ground := Ground.data }], guard := none })) rfl (fun K hK => ?_) AllReadyH.nil)
      go_simp
      refine (HF7.out _).mono ?_
      rintro e wc ⟨rfl, hbq⟩
      replace hw := hw.trans (Below.mono (by exact ⟨hbq.os, hbq.tape, hbq.output, hbq.size, hbq.block⟩) hw.size)
      clear hbq
      go_wp2_with fail
      clear hHeld
      refine hK.out _ _ ⟨keepB hw Ad0 Al, keepB hw Ad1 Al, keepB hw Ad2 Al, keepB hw Bd0 Bl, keepB hw Bd1 Bl, keepB hw Bd2 Bl, keepB hw Cd0 Cl, keepB hw Cd1 Cl, keepB hw Cd2 Cl, keepB hw Md0 Ml, keepB hw Md1 Ml, keepB hw Md2 Ml⟩ (fun hHeld => ?_)
      clear hK K
      try simp only [Act.put, List.setIfInBounds_toArray, List.set_cons_zero, List.set_cons_succ]
      refine wpAnyH_take (i := 3) (oi := ({ dst := some 40, op := Op.unOp UnOp.not 4 (Operand.tmp 39), type := 4, pos := "law.go:64", after := #[{ on := 2, ground := Ground.data }], guard := none })) (v := (.bool true)) rfl (by kernel_rfl) (by kernel_rfl) (by kernel_rfl) (fun _ _ _ h => h) (Or.inl ⟨by rfl, ?_⟩) (by assumption) ?_
      · (intro w hSw; (try dsimp only at hSw); go_simp)
      try simp only [Act.put, List.setIfInBounds_toArray, List.set_cons_zero, List.set_cons_succ]
      refine wpAnyH_take (i := 4) (oi := ({ dst := some 41, op := Op.move (Operand.tmp 40), type := 4, pos := "law.go:64", after := #[{ on := 3, ground := Ground.data }, { on := 2, ground := Ground.chain }], guard := none })) (v := (.bool true)) rfl (by kernel_rfl) (by kernel_rfl) (by kernel_rfl) (fun _ _ _ h => h) (Or.inl ⟨by rfl, ?_⟩) (by assumption) ?_
      · (intro w hSw; (try dsimp only at hSw); go_simp)
      try simp only [Act.put, List.setIfInBounds_toArray, List.set_cons_zero, List.set_cons_succ]
      refine wpAnyH_take (i := 5) (oi := ({ dst := some 42, op := Op.load 53 (Operand.tmp 4), type := 53, pos := "law.go:64", after := #[{ on := 4, ground := Ground.guard }], guard := some (4, false) })) (v := undef) rfl (by kernel_rfl) (by kernel_rfl) (by kernel_rfl) (fun _ _ _ h => h) (Or.inr ⟨by rfl, rfl⟩) (by assumption) ?_
      try simp only [Act.put, List.setIfInBounds_toArray, List.set_cons_zero, List.set_cons_succ]
      refine wpAnyH_take (i := 6) (oi := ({ dst := some 43, op := Op.load 53 (Operand.tmp 5), type := 53, pos := "law.go:64", after := #[{ on := 4, ground := Ground.guard }], guard := some (4, false) })) (v := undef) rfl (by kernel_rfl) (by kernel_rfl) (by kernel_rfl) (fun _ _ _ h => h) (Or.inr ⟨by rfl, rfl⟩) (by assumption) ?_
      try simp only [Act.put, List.setIfInBounds_toArray, List.set_cons_zero, List.set_cons_succ]
      refine wpAnyH_take (i := 7) (oi := ({ dst := some 44, op := Op.call { callee := Callee.value (Operand.func 49), args := #[Operand.tmp 42, Operand.tmp 43], argTypes := #[53, 53] }, type := 4, pos := "law.go:64", after := #[{ on := 5, ground := Ground.data }, { on := 6, ground := Ground.data }, { on := 4, ground := Ground.chain }, { on := 4, ground := Ground.guard }], guard := some (4, false) })) (v := undef) rfl (by kernel_rfl) (by kernel_rfl) (by kernel_rfl) (fun _ _ _ h => h) (Or.inr ⟨by rfl, rfl⟩) (by assumption) ?_
      try simp only [Act.put, List.setIfInBounds_toArray, List.set_cons_zero, List.set_cons_succ]
      refine wpAnyH_take (i := 8) (oi := ({ dst := some 45, op := Op.unOp UnOp.not 4 (Operand.tmp 44), type := 4, pos := "law.go:64", after := #[{ on := 7, ground := Ground.data }, { on := 4, ground := Ground.guard }], guard := some (4, false) })) (v := undef) rfl (by kernel_rfl) (by kernel_rfl) (by kernel_rfl) (fun _ _ _ h => h) (Or.inr ⟨by rfl, rfl⟩) (by assumption) ?_
      try simp only [Act.put, List.setIfInBounds_toArray, List.set_cons_zero, List.set_cons_succ]
      refine wpAnyH_take (i := 9) (oi := ({ dst := some 46, op := Op.pick (Operand.tmp 41) (Operand.const (Value.bool true)) (Operand.tmp 45), type := 4, pos := "law.go:64", after := #[{ on := 4, ground := Ground.data }, { on := 8, ground := Ground.data }], guard := none })) (v := (.bool true)) rfl (by kernel_rfl) (by kernel_rfl) (by kernel_rfl) (fun _ _ _ h => h) (Or.inl ⟨by rfl, ?_⟩) (by assumption) ?_
      · (intro w hSw; (try dsimp only at hSw); go_simp)
      try simp only [Act.put, List.setIfInBounds_toArray, List.set_cons_zero, List.set_cons_succ]
      refine wpAnyH_take (i := 10) (oi := ({ dst := some 47, op := Op.move (Operand.tmp 46), type := 4, pos := "law.go:64", after := #[{ on := 9, ground := Ground.data }, { on := 7, ground := Ground.chain }], guard := none })) (v := (.bool true)) rfl (by kernel_rfl) (by kernel_rfl) (by kernel_rfl) (fun _ _ _ h => h) (Or.inl ⟨by rfl, ?_⟩) (by assumption) ?_
      · (intro w hSw; (try dsimp only at hSw); go_simp)
      try simp only [Act.put, List.setIfInBounds_toArray, List.set_cons_zero, List.set_cons_succ]
      refine wpAnyH_take (i := 11) (oi := ({ dst := some 48, op := Op.load 53 (Operand.tmp 7), type := 53, pos := "law.go:64", after := #[{ on := 10, ground := Ground.guard }], guard := some (10, false) })) (v := undef) rfl (by kernel_rfl) (by kernel_rfl) (by kernel_rfl) (fun _ _ _ h => h) (Or.inr ⟨by rfl, rfl⟩) (by assumption) ?_
      try simp only [Act.put, List.setIfInBounds_toArray, List.set_cons_zero, List.set_cons_succ]
      refine wpAnyH_take (i := 12) (oi := ({ dst := some 49, op := Op.load 53 (Operand.tmp 5), type := 53, pos := "law.go:64", after := #[{ on := 10, ground := Ground.guard }], guard := some (10, false) })) (v := undef) rfl (by kernel_rfl) (by kernel_rfl) (by kernel_rfl) (fun _ _ _ h => h) (Or.inr ⟨by rfl, rfl⟩) (by assumption) ?_
      try simp only [Act.put, List.setIfInBounds_toArray, List.set_cons_zero, List.set_cons_succ]
      refine wpAnyH_take (i := 13) (oi := ({ dst := some 50, op := Op.call { callee := Callee.value (Operand.func 49), args := #[Operand.tmp 48, Operand.tmp 49], argTypes := #[53, 53] }, type := 4, pos := "law.go:64", after := #[{ on := 11, ground := Ground.data }, { on := 12, ground := Ground.data }, { on := 10, ground := Ground.chain }, { on := 10, ground := Ground.guard }], guard := some (10, false) })) (v := undef) rfl (by kernel_rfl) (by kernel_rfl) (by kernel_rfl) (fun _ _ _ h => h) (Or.inr ⟨by rfl, rfl⟩) (by assumption) ?_
      try simp only [Act.put, List.setIfInBounds_toArray, List.set_cons_zero, List.set_cons_succ]
      refine wpAnyH_take (i := 14) (oi := ({ dst := some 51, op := Op.pick (Operand.tmp 47) (Operand.const (Value.bool true)) (Operand.tmp 50), type := 4, pos := "law.go:64", after := #[{ on := 10, ground := Ground.data }, { on := 13, ground := Ground.data }], guard := none })) (v := (.bool true)) rfl (by kernel_rfl) (by kernel_rfl) (by kernel_rfl) (fun _ _ _ h => h) (Or.inl ⟨by rfl, ?_⟩) (by assumption) ?_
      · (intro w hSw; (try dsimp only at hSw); go_simp)
      try simp only [Act.put, List.setIfInBounds_toArray, List.set_cons_zero, List.set_cons_succ]
      refine wpAnyH_take (i := 15) (oi := ({ dst := some 52, op := Op.move (Operand.tmp 51), type := 4, pos := "law.go:64", after := #[{ on := 14, ground := Ground.data }, { on := 13, ground := Ground.chain }], guard := none })) (v := (.bool true)) rfl (by kernel_rfl) (by kernel_rfl) (by kernel_rfl) (fun _ _ _ h => h) (Or.inl ⟨by rfl, ?_⟩) (by assumption) ?_
      · (intro w hSw; (try dsimp only at hSw); go_simp)
      try simp only [Act.put, List.setIfInBounds_toArray, List.set_cons_zero, List.set_cons_succ]
      refine wpAnyH_take (i := 16) (oi := ({ dst := some 53, op := Op.load 53 (Operand.tmp 3), type := 53, pos := "law.go:64", after := #[{ on := 15, ground := Ground.guard }], guard := some (15, true) })) (v := (.agg #[.int .i64 a0, .int .i64 a1, .int .i64 a2])) rfl (by kernel_rfl) (by kernel_rfl) (by kernel_rfl) (fun _ _ _ h => h) (Or.inl ⟨by rfl, ?_⟩) (by assumption) ?_
      · (intro w hSw; (try dsimp only at hSw); go_simp)
      try simp only [Act.put, List.setIfInBounds_toArray, List.set_cons_zero, List.set_cons_succ]
      refine wpAnyH_take (i := 17) (oi := ({ dst := some 54, op := Op.load 53 (Operand.tmp 4), type := 53, pos := "law.go:64", after := #[{ on := 15, ground := Ground.guard }], guard := some (15, true) })) (v := (.agg #[.int .i64 b0, .int .i64 b1, .int .i64 b2])) rfl (by kernel_rfl) (by kernel_rfl) (by kernel_rfl) (fun _ _ _ h => h) (Or.inl ⟨by rfl, ?_⟩) (by assumption) ?_
      · (intro w hSw; (try dsimp only at hSw); go_simp)
      try simp only [Act.put, List.setIfInBounds_toArray, List.set_cons_zero, List.set_cons_succ]
      refine wpAnyH_take (i := 19) (oi := ({ dst := some 56, op := Op.load 53 (Operand.tmp 4), type := 53, pos := "law.go:64", after := #[{ on := 15, ground := Ground.guard }], guard := some (15, true) })) (v := (.agg #[.int .i64 b0, .int .i64 b1, .int .i64 b2])) rfl (by kernel_rfl) (by kernel_rfl) (by kernel_rfl) (fun _ _ _ h => h) (Or.inl ⟨by rfl, ?_⟩) (by assumption) ?_
      · (intro w hSw; (try dsimp only at hSw); go_simp)
      try simp only [Act.put, List.setIfInBounds_toArray, List.set_cons_zero, List.set_cons_succ]
      refine wpAnyH_take (i := 20) (oi := ({ dst := some 57, op := Op.load 53 (Operand.tmp 3), type := 53, pos := "law.go:64", after := #[{ on := 15, ground := Ground.guard }], guard := some (15, true) })) (v := (.agg #[.int .i64 a0, .int .i64 a1, .int .i64 a2])) rfl (by kernel_rfl) (by kernel_rfl) (by kernel_rfl) (fun _ _ _ h => h) (Or.inl ⟨by rfl, ?_⟩) (by assumption) ?_
      · (intro w hSw; (try dsimp only at hSw); go_simp)
      try simp only [Act.put, List.setIfInBounds_toArray, List.set_cons_zero, List.set_cons_succ]
      refine wpAnyH_ready (rs := [18]) (by kernel_rfl) (by simp) (AllReadyH.cons (o := ({ dst := some 55, op := Op.call { callee := Callee.value (Operand.func 53), args := #[Operand.tmp 53, Operand.tmp 54], argTypes := #[53, 53] }, type := 53, pos := "law.go:64", after := #[{ on := 16, ground := Ground.data }, { on := 17, ground := Ground.data }, { on := 15, ground := Ground.chain }, { on := 15, ground := Ground.guard }], guard := some (15, true) })) rfl (fun K hK => ?_) AllReadyH.nil)
      go_simp
      refine (HM1.out _).mono ?_
      rintro e wc ⟨rfl, hbq⟩
      replace hw := hw.trans (Below.mono (by exact ⟨hbq.os, hbq.tape, hbq.output, hbq.size, hbq.block⟩) hw.size)
      clear hbq
      go_wp2_with fail
      clear hHeld
      refine hK.out _ _ ⟨keepB hw Ad0 Al, keepB hw Ad1 Al, keepB hw Ad2 Al, keepB hw Bd0 Bl, keepB hw Bd1 Bl, keepB hw Bd2 Bl, keepB hw Cd0 Cl, keepB hw Cd1 Cl, keepB hw Cd2 Cl, keepB hw Md0 Ml, keepB hw Md1 Ml, keepB hw Md2 Ml⟩ (fun hHeld => ?_)
      clear hK K
      try simp only [Act.put, List.setIfInBounds_toArray, List.set_cons_zero, List.set_cons_succ]
      refine wpAnyH_ready (rs := [21]) (by kernel_rfl) (by simp) (AllReadyH.cons (o := ({ dst := some 58, op := Op.call { callee := Callee.value (Operand.func 53), args := #[Operand.tmp 56, Operand.tmp 57], argTypes := #[53, 53] }, type := 53, pos := "law.go:64", after := #[{ on := 19, ground := Ground.data }, { on := 20, ground := Ground.data }, { on := 18, ground := Ground.chain }, { on := 15, ground := Ground.guard }], guard := some (15, true) })) rfl (fun K hK => ?_) AllReadyH.nil)
      go_simp
      refine (HM2.out _).mono ?_
      rintro e wc ⟨rfl, hbq⟩
      replace hw := hw.trans (Below.mono (by exact ⟨hbq.os, hbq.tape, hbq.output, hbq.size, hbq.block⟩) hw.size)
      clear hbq
      go_wp2_with fail
      clear hHeld
      refine hK.out _ _ ⟨keepB hw Ad0 Al, keepB hw Ad1 Al, keepB hw Ad2 Al, keepB hw Bd0 Bl, keepB hw Bd1 Bl, keepB hw Bd2 Bl, keepB hw Cd0 Cl, keepB hw Cd1 Cl, keepB hw Cd2 Cl, keepB hw Md0 Ml, keepB hw Md1 Ml, keepB hw Md2 Ml⟩ (fun hHeld => ?_)
      clear hK K
      try simp only [Act.put, List.setIfInBounds_toArray, List.set_cons_zero, List.set_cons_succ]
      refine wpAnyH_take (i := 22) (oi := ({ dst := some 59, op := Op.binOp BinOp.eql 53 (Operand.tmp 55) (Operand.tmp 58) 53, type := 4, pos := "law.go:64", after := #[{ on := 18, ground := Ground.data }, { on := 21, ground := Ground.data }, { on := 15, ground := Ground.guard }], guard := some (15, true) })) (v := (.bool true)) rfl (by kernel_rfl) (by kernel_rfl) (by kernel_rfl) (fun _ _ _ h => h) (Or.inl ⟨by rfl, ?_⟩) (by assumption) ?_
      · (intro w hSw; (try dsimp only at hSw); go_simp)
      try simp only [Act.put, List.setIfInBounds_toArray, List.set_cons_zero, List.set_cons_succ]
      refine wpAnyH_take (i := 23) (oi := ({ dst := some 60, op := Op.pick (Operand.tmp 52) (Operand.tmp 59) (Operand.const (Value.bool false)), type := 4, pos := "law.go:64", after := #[{ on := 15, ground := Ground.data }, { on := 22, ground := Ground.data }], guard := none })) (v := (.bool true)) rfl (by kernel_rfl) (by kernel_rfl) (by kernel_rfl) (fun _ _ _ h => h) (Or.inl ⟨by rfl, ?_⟩) (by assumption) ?_
      · (intro w hSw; (try dsimp only at hSw); go_simp)
      try simp only [Act.put, List.setIfInBounds_toArray, List.set_cons_zero, List.set_cons_succ]
      refine wpAnyH_take (i := 24) (oi := ({ dst := some 61, op := Op.move (Operand.tmp 60), type := 4, pos := "law.go:64", after := #[{ on := 23, ground := Ground.data }, { on := 21, ground := Ground.chain }], guard := none })) (v := (.bool true)) rfl (by kernel_rfl) (by kernel_rfl) (by kernel_rfl) (fun _ _ _ h => h) (Or.inl ⟨by rfl, ?_⟩) (by assumption) ?_
      · (intro w hSw; (try dsimp only at hSw); go_simp)
      try simp only [Act.put, List.setIfInBounds_toArray, List.set_cons_zero, List.set_cons_succ]
      refine wpAnyH_take (i := 25) (oi := ({ dst := some 62, op := Op.load 53 (Operand.tmp 3), type := 53, pos := "law.go:64", after := #[{ on := 24, ground := Ground.guard }], guard := some (24, true) })) (v := (.agg #[.int .i64 a0, .int .i64 a1, .int .i64 a2])) rfl (by kernel_rfl) (by kernel_rfl) (by kernel_rfl) (fun _ _ _ h => h) (Or.inl ⟨by rfl, ?_⟩) (by assumption) ?_
      · (intro w hSw; (try dsimp only at hSw); go_simp)
      try simp only [Act.put, List.setIfInBounds_toArray, List.set_cons_zero, List.set_cons_succ]
      refine wpAnyH_take (i := 26) (oi := ({ dst := some 63, op := Op.load 53 (Operand.tmp 3), type := 53, pos := "law.go:64", after := #[{ on := 24, ground := Ground.guard }], guard := some (24, true) })) (v := (.agg #[.int .i64 a0, .int .i64 a1, .int .i64 a2])) rfl (by kernel_rfl) (by kernel_rfl) (by kernel_rfl) (fun _ _ _ h => h) (Or.inl ⟨by rfl, ?_⟩) (by assumption) ?_
      · (intro w hSw; (try dsimp only at hSw); go_simp)
      try simp only [Act.put, List.setIfInBounds_toArray, List.set_cons_zero, List.set_cons_succ]
      refine wpAnyH_take (i := 28) (oi := ({ dst := some 65, op := Op.load 53 (Operand.tmp 3), type := 53, pos := "law.go:64", after := #[{ on := 24, ground := Ground.guard }], guard := some (24, true) })) (v := (.agg #[.int .i64 a0, .int .i64 a1, .int .i64 a2])) rfl (by kernel_rfl) (by kernel_rfl) (by kernel_rfl) (fun _ _ _ h => h) (Or.inl ⟨by rfl, ?_⟩) (by assumption) ?_
      · (intro w hSw; (try dsimp only at hSw); go_simp)
      try simp only [Act.put, List.setIfInBounds_toArray, List.set_cons_zero, List.set_cons_succ]
      refine wpAnyH_ready (rs := [27]) (by kernel_rfl) (by simp) (AllReadyH.cons (o := ({ dst := some 64, op := Op.call { callee := Callee.value (Operand.func 53), args := #[Operand.tmp 62, Operand.tmp 63], argTypes := #[53, 53] }, type := 53, pos := "law.go:64", after := #[{ on := 25, ground := Ground.data }, { on := 26, ground := Ground.data }, { on := 24, ground := Ground.chain }, { on := 24, ground := Ground.guard }], guard := some (24, true) })) rfl (fun K hK => ?_) AllReadyH.nil)
      go_simp
      refine (HM3.out _).mono ?_
      rintro e wc ⟨rfl, hbq⟩
      replace hw := hw.trans (Below.mono (by exact ⟨hbq.os, hbq.tape, hbq.output, hbq.size, hbq.block⟩) hw.size)
      clear hbq
      go_wp2_with fail
      clear hHeld
      refine hK.out _ _ ⟨keepB hw Ad0 Al, keepB hw Ad1 Al, keepB hw Ad2 Al, keepB hw Bd0 Bl, keepB hw Bd1 Bl, keepB hw Bd2 Bl, keepB hw Cd0 Cl, keepB hw Cd1 Cl, keepB hw Cd2 Cl, keepB hw Md0 Ml, keepB hw Md1 Ml, keepB hw Md2 Ml⟩ (fun hHeld => ?_)
      clear hK K
      try simp only [Act.put, List.setIfInBounds_toArray, List.set_cons_zero, List.set_cons_succ]
      refine wpAnyH_take (i := 29) (oi := ({ dst := some 66, op := Op.binOp BinOp.eql 53 (Operand.tmp 64) (Operand.tmp 65) 53, type := 4, pos := "law.go:64", after := #[{ on := 27, ground := Ground.data }, { on := 28, ground := Ground.data }, { on := 24, ground := Ground.guard }], guard := some (24, true) })) (v := (.bool true)) rfl (by kernel_rfl) (by kernel_rfl) (by kernel_rfl) (fun _ _ _ h => h) (Or.inl ⟨by rfl, ?_⟩) (by assumption) ?_
      · (intro w hSw; (try dsimp only at hSw); go_simp)
      try simp only [Act.put, List.setIfInBounds_toArray, List.set_cons_zero, List.set_cons_succ]
      refine wpAnyH_take (i := 30) (oi := ({ dst := some 67, op := Op.pick (Operand.tmp 61) (Operand.tmp 66) (Operand.const (Value.bool false)), type := 4, pos := "law.go:64", after := #[{ on := 24, ground := Ground.data }, { on := 29, ground := Ground.data }], guard := none })) (v := (.bool true)) rfl (by kernel_rfl) (by kernel_rfl) (by kernel_rfl) (fun _ _ _ h => h) (Or.inl ⟨by rfl, ?_⟩) (by assumption) ?_
      · (intro w hSw; (try dsimp only at hSw); go_simp)
      try simp only [Act.put, List.setIfInBounds_toArray, List.set_cons_zero, List.set_cons_succ]
      refine wpAnyH_take (i := 31) (oi := ({ dst := some 68, op := Op.move (Operand.tmp 67), type := 4, pos := "law.go:64", after := #[{ on := 30, ground := Ground.data }, { on := 27, ground := Ground.chain }], guard := none })) (v := (.bool true)) rfl (by kernel_rfl) (by kernel_rfl) (by kernel_rfl) (fun _ _ _ h => h) (Or.inl ⟨by rfl, ?_⟩) (by assumption) ?_
      · (intro w hSw; (try dsimp only at hSw); go_simp)
      try simp only [Act.put, List.setIfInBounds_toArray, List.set_cons_zero, List.set_cons_succ]
      refine wpAnyH_ready (rs := [32]) (by kernel_rfl) (by simp) (AllReadyH.cons (o := ({ dst := some 69, op := Op.call { callee := Callee.value (Operand.func 55), args := #[], argTypes := #[] }, type := 4, pos := "law.go:64", after := #[{ on := 31, ground := Ground.chain }, { on := 31, ground := Ground.guard }], guard := some (31, true) })) rfl (fun K hK => ?_) AllReadyH.nil)
      go_simp
      refine (AW.out _ (LL.out.below (by exact ⟨hw.os, hw.tape, hw.output, hw.size, hw.block⟩))).mono ?_
      rintro e wc ⟨rfl, hbq⟩
      replace hw := hw.trans (Below.mono (by exact ⟨hbq.os, hbq.tape, hbq.output, hbq.size, hbq.block⟩) hw.size)
      clear hbq
      go_wp2_with fail
      clear hHeld
      refine hK.out _ _ ⟨keepB hw Ad0 Al, keepB hw Ad1 Al, keepB hw Ad2 Al, keepB hw Bd0 Bl, keepB hw Bd1 Bl, keepB hw Bd2 Bl, keepB hw Cd0 Cl, keepB hw Cd1 Cl, keepB hw Cd2 Cl, keepB hw Md0 Ml, keepB hw Md1 Ml, keepB hw Md2 Ml⟩ (fun hHeld => ?_)
      clear hK K
      try simp only [Act.put, List.setIfInBounds_toArray, List.set_cons_zero, List.set_cons_succ]
      refine wpAnyH_take (i := 33) (oi := ({ dst := some 70, op := Op.pick (Operand.tmp 68) (Operand.tmp 69) (Operand.const (Value.bool false)), type := 4, pos := "law.go:64", after := #[{ on := 31, ground := Ground.data }, { on := 32, ground := Ground.data }], guard := none })) (v := (.bool true)) rfl (by kernel_rfl) (by kernel_rfl) (by kernel_rfl) (fun _ _ _ h => h) (Or.inl ⟨by rfl, ?_⟩) (by assumption) ?_
      · (intro w hSw; (try dsimp only at hSw); go_simp)
      try simp only [Act.put, List.setIfInBounds_toArray, List.set_cons_zero, List.set_cons_succ]
      refine wpAnyH_take (i := 34) (oi := ({ dst := some 6, op := Op.assign (Operand.tmp 70), type := 4, pos := "law.go:64", after := #[{ on := 33, ground := Ground.data }, { on := 32, ground := Ground.chain }, { on := 0, ground := Ground.phase }, { on := 1, ground := Ground.phase }, { on := 2, ground := Ground.phase }, { on := 3, ground := Ground.phase }, { on := 4, ground := Ground.phase }, { on := 5, ground := Ground.phase }, { on := 6, ground := Ground.phase }, { on := 7, ground := Ground.phase }, { on := 8, ground := Ground.phase }, { on := 9, ground := Ground.phase }, { on := 10, ground := Ground.phase }, { on := 11, ground := Ground.phase }, { on := 12, ground := Ground.phase }, { on := 13, ground := Ground.phase }, { on := 14, ground := Ground.phase }, { on := 15, ground := Ground.phase }, { on := 16, ground := Ground.phase }, { on := 17, ground := Ground.phase }, { on := 18, ground := Ground.phase }, { on := 19, ground := Ground.phase }, { on := 20, ground := Ground.phase }, { on := 21, ground := Ground.phase }, { on := 22, ground := Ground.phase }, { on := 23, ground := Ground.phase }, { on := 24, ground := Ground.phase }, { on := 25, ground := Ground.phase }, { on := 26, ground := Ground.phase }, { on := 27, ground := Ground.phase }, { on := 28, ground := Ground.phase }, { on := 29, ground := Ground.phase }, { on := 30, ground := Ground.phase }, { on := 31, ground := Ground.phase }, { on := 32, ground := Ground.phase }, { on := 33, ground := Ground.phase }], guard := none })) (v := (.bool true)) rfl (by kernel_rfl) (by kernel_rfl) (by kernel_rfl) (fun _ _ _ h => h) (Or.inl ⟨by rfl, ?_⟩) (by assumption) ?_
      · (intro w hSw; (try dsimp only at hSw); go_simp)
      try simp only [Act.put, List.setIfInBounds_toArray, List.set_cons_zero, List.set_cons_succ]
      refine wpAnyH_done (by kernel_rfl) ?_ _
      clear hHeld
      have KL9 := Lib.hid (KL.out.trans (hw.mono (by have := KL.out.size; have := HN.out; omega)))
      go_wp2_with fail
      go_ret
      exact ⟨rfl, KL9.out⟩
    | true =>
      cases f2 with
      | false =>
        skip
        have Ad0 := KA.out.cell (i := 0) rfl
        have Ad1 := KA.out.cell (i := 1) rfl
        have Ad2 := KA.out.cell (i := 2) rfl
        have Bd0 := KB.out.cell (i := 0) rfl
        have Bd1 := KB.out.cell (i := 1) rfl
        have Bd2 := KB.out.cell (i := 2) rfl
        have Cd0 := KC.out.cell (i := 0) rfl
        have Cd1 := KC.out.cell (i := 1) rfl
        have Cd2 := KC.out.cell (i := 2) rfl
        have Md0 := KM.out.cell (i := 0) rfl
        have Md1 := KM.out.cell (i := 1) rfl
        have Md2 := KM.out.cell (i := 2) rfl
        have Al := KA.out.lt
        have Bl := KB.out.lt
        have Cl := KC.out.lt
        have Ml := KM.out.lt
        have hw := below_self KL.out
        refine wp_region_held_drew (S := (fun w' => w'.cell? ⟨n, 0, none⟩ = some (.int .i64 a0) ∧ w'.cell? ⟨n, 1, none⟩ = some (.int .i64 a1) ∧ w'.cell? ⟨n, 2, none⟩ = some (.int .i64 a2) ∧ w'.cell? ⟨(n + 1), 0, none⟩ = some (.int .i64 b0) ∧ w'.cell? ⟨(n + 1), 1, none⟩ = some (.int .i64 b1) ∧ w'.cell? ⟨(n + 1), 2, none⟩ = some (.int .i64 b2) ∧ w'.cell? ⟨((n + 1) + 1), 0, none⟩ = some (.int .i64 c0) ∧ w'.cell? ⟨((n + 1) + 1), 1, none⟩ = some (.int .i64 c1) ∧ w'.cell? ⟨((n + 1) + 1), 2, none⟩ = some (.int .i64 c2) ∧ w'.cell? ⟨m1, 0, none⟩ = some (.int .i64 z0) ∧ w'.cell? ⟨m1, 1, none⟩ = some (.int .i64 z1) ∧ w'.cell? ⟨m1, 2, none⟩ = some (.int .i64 z2))) (by kernel_rfl) ⟨KA.out.drew.cell (i := 0) rfl, KA.out.drew.cell (i := 1) rfl, KA.out.drew.cell (i := 2) rfl, KB.out.drew.cell (i := 0) rfl, KB.out.drew.cell (i := 1) rfl, KB.out.drew.cell (i := 2) rfl, KC.out.drew.cell (i := 0) rfl, KC.out.drew.cell (i := 1) rfl, KC.out.drew.cell (i := 2) rfl, KM.out.drew.cell (i := 0) rfl, KM.out.drew.cell (i := 1) rfl, KM.out.drew.cell (i := 2) rfl⟩ (fun hHeld => ?_)
        refine wpAnyH_take (i := 0) (oi := ({ dst := some 37, op := Op.load 53 (Operand.tmp 3), type := 53, pos := "law.go:64", after := #[], guard := none })) (v := (.agg #[.int .i64 a0, .int .i64 a1, .int .i64 a2])) rfl (by kernel_rfl) (by kernel_rfl) (by kernel_rfl) (fun _ _ _ h => h) (Or.inl ⟨by rfl, ?_⟩) (by assumption) ?_
        · (intro w hSw; (try dsimp only at hSw); go_simp)
        try simp only [Act.put, List.setIfInBounds_toArray, List.set_cons_zero, List.set_cons_succ]
        refine wpAnyH_take (i := 1) (oi := ({ dst := some 38, op := Op.load 53 (Operand.tmp 5), type := 53, pos := "law.go:64", after := #[], guard := none })) (v := (.agg #[.int .i64 c0, .int .i64 c1, .int .i64 c2])) rfl (by kernel_rfl) (by kernel_rfl) (by kernel_rfl) (fun _ _ _ h => h) (Or.inl ⟨by rfl, ?_⟩) (by assumption) ?_
        · (intro w hSw; (try dsimp only at hSw); go_simp)
        try simp only [Act.put, List.setIfInBounds_toArray, List.set_cons_zero, List.set_cons_succ]
        refine wpAnyH_ready (rs := [2]) (by kernel_rfl) (by simp) (AllReadyH.cons (o := ({ dst := some 39, op := Op.call { callee := Callee.value (Operand.func 49), args := #[Operand.tmp 37, Operand.tmp 38], argTypes := #[53, 53] }, type := 4, pos := "law.go:64", after := #[{ on := 0, ground := Ground.data }, { on := 1, ground := Ground.data }], guard := none })) rfl (fun K hK => ?_) AllReadyH.nil)
        go_simp
        refine (HF7.out _).mono ?_
        rintro e wc ⟨rfl, hbq⟩
        replace hw := hw.trans (Below.mono (by exact ⟨hbq.os, hbq.tape, hbq.output, hbq.size, hbq.block⟩) hw.size)
        clear hbq
        go_wp2_with fail
        clear hHeld
        refine hK.out _ _ ⟨keepB hw Ad0 Al, keepB hw Ad1 Al, keepB hw Ad2 Al, keepB hw Bd0 Bl, keepB hw Bd1 Bl, keepB hw Bd2 Bl, keepB hw Cd0 Cl, keepB hw Cd1 Cl, keepB hw Cd2 Cl, keepB hw Md0 Ml, keepB hw Md1 Ml, keepB hw Md2 Ml⟩ (fun hHeld => ?_)
        clear hK K
        try simp only [Act.put, List.setIfInBounds_toArray, List.set_cons_zero, List.set_cons_succ]
        refine wpAnyH_take (i := 3) (oi := ({ dst := some 40, op := Op.unOp UnOp.not 4 (Operand.tmp 39), type := 4, pos := "law.go:64", after := #[{ on := 2, ground := Ground.data }], guard := none })) (v := (.bool false)) rfl (by kernel_rfl) (by kernel_rfl) (by kernel_rfl) (fun _ _ _ h => h) (Or.inl ⟨by rfl, ?_⟩) (by assumption) ?_
        · (intro w hSw; (try dsimp only at hSw); go_simp)
        try simp only [Act.put, List.setIfInBounds_toArray, List.set_cons_zero, List.set_cons_succ]
        refine wpAnyH_take (i := 4) (oi := ({ dst := some 41, op := Op.move (Operand.tmp 40), type := 4, pos := "law.go:64", after := #[{ on := 3, ground := Ground.data }, { on := 2, ground := Ground.chain }], guard := none })) (v := (.bool false)) rfl (by kernel_rfl) (by kernel_rfl) (by kernel_rfl) (fun _ _ _ h => h) (Or.inl ⟨by rfl, ?_⟩) (by assumption) ?_
        · (intro w hSw; (try dsimp only at hSw); go_simp)
        try simp only [Act.put, List.setIfInBounds_toArray, List.set_cons_zero, List.set_cons_succ]
        refine wpAnyH_take (i := 5) (oi := ({ dst := some 42, op := Op.load 53 (Operand.tmp 4), type := 53, pos := "law.go:64", after := #[{ on := 4, ground := Ground.guard }], guard := some (4, false) })) (v := (.agg #[.int .i64 b0, .int .i64 b1, .int .i64 b2])) rfl (by kernel_rfl) (by kernel_rfl) (by kernel_rfl) (fun _ _ _ h => h) (Or.inl ⟨by rfl, ?_⟩) (by assumption) ?_
        · (intro w hSw; (try dsimp only at hSw); go_simp)
        try simp only [Act.put, List.setIfInBounds_toArray, List.set_cons_zero, List.set_cons_succ]
        refine wpAnyH_take (i := 6) (oi := ({ dst := some 43, op := Op.load 53 (Operand.tmp 5), type := 53, pos := "law.go:64", after := #[{ on := 4, ground := Ground.guard }], guard := some (4, false) })) (v := (.agg #[.int .i64 c0, .int .i64 c1, .int .i64 c2])) rfl (by kernel_rfl) (by kernel_rfl) (by kernel_rfl) (fun _ _ _ h => h) (Or.inl ⟨by rfl, ?_⟩) (by assumption) ?_
        · (intro w hSw; (try dsimp only at hSw); go_simp)
        try simp only [Act.put, List.setIfInBounds_toArray, List.set_cons_zero, List.set_cons_succ]
        refine wpAnyH_ready (rs := [7]) (by kernel_rfl) (by simp) (AllReadyH.cons (o := ({ dst := some 44, op := Op.call { callee := Callee.value (Operand.func 49), args := #[Operand.tmp 42, Operand.tmp 43], argTypes := #[53, 53] }, type := 4, pos := "law.go:64", after := #[{ on := 5, ground := Ground.data }, { on := 6, ground := Ground.data }, { on := 4, ground := Ground.chain }, { on := 4, ground := Ground.guard }], guard := some (4, false) })) rfl (fun K hK => ?_) AllReadyH.nil)
        go_simp
        refine (HF8.out _).mono ?_
        rintro e wc ⟨rfl, hbq⟩
        replace hw := hw.trans (Below.mono (by exact ⟨hbq.os, hbq.tape, hbq.output, hbq.size, hbq.block⟩) hw.size)
        clear hbq
        go_wp2_with fail
        clear hHeld
        refine hK.out _ _ ⟨keepB hw Ad0 Al, keepB hw Ad1 Al, keepB hw Ad2 Al, keepB hw Bd0 Bl, keepB hw Bd1 Bl, keepB hw Bd2 Bl, keepB hw Cd0 Cl, keepB hw Cd1 Cl, keepB hw Cd2 Cl, keepB hw Md0 Ml, keepB hw Md1 Ml, keepB hw Md2 Ml⟩ (fun hHeld => ?_)
        clear hK K
        try simp only [Act.put, List.setIfInBounds_toArray, List.set_cons_zero, List.set_cons_succ]
        refine wpAnyH_take (i := 8) (oi := ({ dst := some 45, op := Op.unOp UnOp.not 4 (Operand.tmp 44), type := 4, pos := "law.go:64", after := #[{ on := 7, ground := Ground.data }, { on := 4, ground := Ground.guard }], guard := some (4, false) })) (v := (.bool true)) rfl (by kernel_rfl) (by kernel_rfl) (by kernel_rfl) (fun _ _ _ h => h) (Or.inl ⟨by rfl, ?_⟩) (by assumption) ?_
        · (intro w hSw; (try dsimp only at hSw); go_simp)
        try simp only [Act.put, List.setIfInBounds_toArray, List.set_cons_zero, List.set_cons_succ]
        refine wpAnyH_take (i := 9) (oi := ({ dst := some 46, op := Op.pick (Operand.tmp 41) (Operand.const (Value.bool true)) (Operand.tmp 45), type := 4, pos := "law.go:64", after := #[{ on := 4, ground := Ground.data }, { on := 8, ground := Ground.data }], guard := none })) (v := (.bool true)) rfl (by kernel_rfl) (by kernel_rfl) (by kernel_rfl) (fun _ _ _ h => h) (Or.inl ⟨by rfl, ?_⟩) (by assumption) ?_
        · (intro w hSw; (try dsimp only at hSw); go_simp)
        try simp only [Act.put, List.setIfInBounds_toArray, List.set_cons_zero, List.set_cons_succ]
        refine wpAnyH_take (i := 10) (oi := ({ dst := some 47, op := Op.move (Operand.tmp 46), type := 4, pos := "law.go:64", after := #[{ on := 9, ground := Ground.data }, { on := 7, ground := Ground.chain }], guard := none })) (v := (.bool true)) rfl (by kernel_rfl) (by kernel_rfl) (by kernel_rfl) (fun _ _ _ h => h) (Or.inl ⟨by rfl, ?_⟩) (by assumption) ?_
        · (intro w hSw; (try dsimp only at hSw); go_simp)
        try simp only [Act.put, List.setIfInBounds_toArray, List.set_cons_zero, List.set_cons_succ]
        refine wpAnyH_take (i := 11) (oi := ({ dst := some 48, op := Op.load 53 (Operand.tmp 7), type := 53, pos := "law.go:64", after := #[{ on := 10, ground := Ground.guard }], guard := some (10, false) })) (v := undef) rfl (by kernel_rfl) (by kernel_rfl) (by kernel_rfl) (fun _ _ _ h => h) (Or.inr ⟨by rfl, rfl⟩) (by assumption) ?_
        try simp only [Act.put, List.setIfInBounds_toArray, List.set_cons_zero, List.set_cons_succ]
        refine wpAnyH_take (i := 12) (oi := ({ dst := some 49, op := Op.load 53 (Operand.tmp 5), type := 53, pos := "law.go:64", after := #[{ on := 10, ground := Ground.guard }], guard := some (10, false) })) (v := undef) rfl (by kernel_rfl) (by kernel_rfl) (by kernel_rfl) (fun _ _ _ h => h) (Or.inr ⟨by rfl, rfl⟩) (by assumption) ?_
        try simp only [Act.put, List.setIfInBounds_toArray, List.set_cons_zero, List.set_cons_succ]
        refine wpAnyH_take (i := 13) (oi := ({ dst := some 50, op := Op.call { callee := Callee.value (Operand.func 49), args := #[Operand.tmp 48, Operand.tmp 49], argTypes := #[53, 53] }, type := 4, pos := "law.go:64", after := #[{ on := 11, ground := Ground.data }, { on := 12, ground := Ground.data }, { on := 10, ground := Ground.chain }, { on := 10, ground := Ground.guard }], guard := some (10, false) })) (v := undef) rfl (by kernel_rfl) (by kernel_rfl) (by kernel_rfl) (fun _ _ _ h => h) (Or.inr ⟨by rfl, rfl⟩) (by assumption) ?_
        try simp only [Act.put, List.setIfInBounds_toArray, List.set_cons_zero, List.set_cons_succ]
        refine wpAnyH_take (i := 14) (oi := ({ dst := some 51, op := Op.pick (Operand.tmp 47) (Operand.const (Value.bool true)) (Operand.tmp 50), type := 4, pos := "law.go:64", after := #[{ on := 10, ground := Ground.data }, { on := 13, ground := Ground.data }], guard := none })) (v := (.bool true)) rfl (by kernel_rfl) (by kernel_rfl) (by kernel_rfl) (fun _ _ _ h => h) (Or.inl ⟨by rfl, ?_⟩) (by assumption) ?_
        · (intro w hSw; (try dsimp only at hSw); go_simp)
        try simp only [Act.put, List.setIfInBounds_toArray, List.set_cons_zero, List.set_cons_succ]
        refine wpAnyH_take (i := 15) (oi := ({ dst := some 52, op := Op.move (Operand.tmp 51), type := 4, pos := "law.go:64", after := #[{ on := 14, ground := Ground.data }, { on := 13, ground := Ground.chain }], guard := none })) (v := (.bool true)) rfl (by kernel_rfl) (by kernel_rfl) (by kernel_rfl) (fun _ _ _ h => h) (Or.inl ⟨by rfl, ?_⟩) (by assumption) ?_
        · (intro w hSw; (try dsimp only at hSw); go_simp)
        try simp only [Act.put, List.setIfInBounds_toArray, List.set_cons_zero, List.set_cons_succ]
        refine wpAnyH_take (i := 16) (oi := ({ dst := some 53, op := Op.load 53 (Operand.tmp 3), type := 53, pos := "law.go:64", after := #[{ on := 15, ground := Ground.guard }], guard := some (15, true) })) (v := (.agg #[.int .i64 a0, .int .i64 a1, .int .i64 a2])) rfl (by kernel_rfl) (by kernel_rfl) (by kernel_rfl) (fun _ _ _ h => h) (Or.inl ⟨by rfl, ?_⟩) (by assumption) ?_
        · (intro w hSw; (try dsimp only at hSw); go_simp)
        try simp only [Act.put, List.setIfInBounds_toArray, List.set_cons_zero, List.set_cons_succ]
        refine wpAnyH_take (i := 17) (oi := ({ dst := some 54, op := Op.load 53 (Operand.tmp 4), type := 53, pos := "law.go:64", after := #[{ on := 15, ground := Ground.guard }], guard := some (15, true) })) (v := (.agg #[.int .i64 b0, .int .i64 b1, .int .i64 b2])) rfl (by kernel_rfl) (by kernel_rfl) (by kernel_rfl) (fun _ _ _ h => h) (Or.inl ⟨by rfl, ?_⟩) (by assumption) ?_
        · (intro w hSw; (try dsimp only at hSw); go_simp)
        try simp only [Act.put, List.setIfInBounds_toArray, List.set_cons_zero, List.set_cons_succ]
        refine wpAnyH_take (i := 19) (oi := ({ dst := some 56, op := Op.load 53 (Operand.tmp 4), type := 53, pos := "law.go:64", after := #[{ on := 15, ground := Ground.guard }], guard := some (15, true) })) (v := (.agg #[.int .i64 b0, .int .i64 b1, .int .i64 b2])) rfl (by kernel_rfl) (by kernel_rfl) (by kernel_rfl) (fun _ _ _ h => h) (Or.inl ⟨by rfl, ?_⟩) (by assumption) ?_
        · (intro w hSw; (try dsimp only at hSw); go_simp)
        try simp only [Act.put, List.setIfInBounds_toArray, List.set_cons_zero, List.set_cons_succ]
        refine wpAnyH_take (i := 20) (oi := ({ dst := some 57, op := Op.load 53 (Operand.tmp 3), type := 53, pos := "law.go:64", after := #[{ on := 15, ground := Ground.guard }], guard := some (15, true) })) (v := (.agg #[.int .i64 a0, .int .i64 a1, .int .i64 a2])) rfl (by kernel_rfl) (by kernel_rfl) (by kernel_rfl) (fun _ _ _ h => h) (Or.inl ⟨by rfl, ?_⟩) (by assumption) ?_
        · (intro w hSw; (try dsimp only at hSw); go_simp)
        try simp only [Act.put, List.setIfInBounds_toArray, List.set_cons_zero, List.set_cons_succ]
        refine wpAnyH_ready (rs := [18]) (by kernel_rfl) (by simp) (AllReadyH.cons (o := ({ dst := some 55, op := Op.call { callee := Callee.value (Operand.func 53), args := #[Operand.tmp 53, Operand.tmp 54], argTypes := #[53, 53] }, type := 53, pos := "law.go:64", after := #[{ on := 16, ground := Ground.data }, { on := 17, ground := Ground.data }, { on := 15, ground := Ground.chain }, { on := 15, ground := Ground.guard }], guard := some (15, true) })) rfl (fun K hK => ?_) AllReadyH.nil)
        go_simp
        refine (HM1.out _).mono ?_
        rintro e wc ⟨rfl, hbq⟩
        replace hw := hw.trans (Below.mono (by exact ⟨hbq.os, hbq.tape, hbq.output, hbq.size, hbq.block⟩) hw.size)
        clear hbq
        go_wp2_with fail
        clear hHeld
        refine hK.out _ _ ⟨keepB hw Ad0 Al, keepB hw Ad1 Al, keepB hw Ad2 Al, keepB hw Bd0 Bl, keepB hw Bd1 Bl, keepB hw Bd2 Bl, keepB hw Cd0 Cl, keepB hw Cd1 Cl, keepB hw Cd2 Cl, keepB hw Md0 Ml, keepB hw Md1 Ml, keepB hw Md2 Ml⟩ (fun hHeld => ?_)
        clear hK K
        try simp only [Act.put, List.setIfInBounds_toArray, List.set_cons_zero, List.set_cons_succ]
        refine wpAnyH_ready (rs := [21]) (by kernel_rfl) (by simp) (AllReadyH.cons (o := ({ dst := some 58, op := Op.call { callee := Callee.value (Operand.func 53), args := #[Operand.tmp 56, Operand.tmp 57], argTypes := #[53, 53] }, type := 53, pos := "law.go:64", after := #[{ on := 19, ground := Ground.data }, { on := 20, ground := Ground.data }, { on := 18, ground := Ground.chain }, { on := 15, ground := Ground.guard }], guard := some (15, true) })) rfl (fun K hK => ?_) AllReadyH.nil)
        go_simp
        refine (HM2.out _).mono ?_
        rintro e wc ⟨rfl, hbq⟩
        replace hw := hw.trans (Below.mono (by exact ⟨hbq.os, hbq.tape, hbq.output, hbq.size, hbq.block⟩) hw.size)
        clear hbq
        go_wp2_with fail
        clear hHeld
        refine hK.out _ _ ⟨keepB hw Ad0 Al, keepB hw Ad1 Al, keepB hw Ad2 Al, keepB hw Bd0 Bl, keepB hw Bd1 Bl, keepB hw Bd2 Bl, keepB hw Cd0 Cl, keepB hw Cd1 Cl, keepB hw Cd2 Cl, keepB hw Md0 Ml, keepB hw Md1 Ml, keepB hw Md2 Ml⟩ (fun hHeld => ?_)
        clear hK K
        try simp only [Act.put, List.setIfInBounds_toArray, List.set_cons_zero, List.set_cons_succ]
        refine wpAnyH_take (i := 22) (oi := ({ dst := some 59, op := Op.binOp BinOp.eql 53 (Operand.tmp 55) (Operand.tmp 58) 53, type := 4, pos := "law.go:64", after := #[{ on := 18, ground := Ground.data }, { on := 21, ground := Ground.data }, { on := 15, ground := Ground.guard }], guard := some (15, true) })) (v := (.bool true)) rfl (by kernel_rfl) (by kernel_rfl) (by kernel_rfl) (fun _ _ _ h => h) (Or.inl ⟨by rfl, ?_⟩) (by assumption) ?_
        · (intro w hSw; (try dsimp only at hSw); go_simp)
        try simp only [Act.put, List.setIfInBounds_toArray, List.set_cons_zero, List.set_cons_succ]
        refine wpAnyH_take (i := 23) (oi := ({ dst := some 60, op := Op.pick (Operand.tmp 52) (Operand.tmp 59) (Operand.const (Value.bool false)), type := 4, pos := "law.go:64", after := #[{ on := 15, ground := Ground.data }, { on := 22, ground := Ground.data }], guard := none })) (v := (.bool true)) rfl (by kernel_rfl) (by kernel_rfl) (by kernel_rfl) (fun _ _ _ h => h) (Or.inl ⟨by rfl, ?_⟩) (by assumption) ?_
        · (intro w hSw; (try dsimp only at hSw); go_simp)
        try simp only [Act.put, List.setIfInBounds_toArray, List.set_cons_zero, List.set_cons_succ]
        refine wpAnyH_take (i := 24) (oi := ({ dst := some 61, op := Op.move (Operand.tmp 60), type := 4, pos := "law.go:64", after := #[{ on := 23, ground := Ground.data }, { on := 21, ground := Ground.chain }], guard := none })) (v := (.bool true)) rfl (by kernel_rfl) (by kernel_rfl) (by kernel_rfl) (fun _ _ _ h => h) (Or.inl ⟨by rfl, ?_⟩) (by assumption) ?_
        · (intro w hSw; (try dsimp only at hSw); go_simp)
        try simp only [Act.put, List.setIfInBounds_toArray, List.set_cons_zero, List.set_cons_succ]
        refine wpAnyH_take (i := 25) (oi := ({ dst := some 62, op := Op.load 53 (Operand.tmp 3), type := 53, pos := "law.go:64", after := #[{ on := 24, ground := Ground.guard }], guard := some (24, true) })) (v := (.agg #[.int .i64 a0, .int .i64 a1, .int .i64 a2])) rfl (by kernel_rfl) (by kernel_rfl) (by kernel_rfl) (fun _ _ _ h => h) (Or.inl ⟨by rfl, ?_⟩) (by assumption) ?_
        · (intro w hSw; (try dsimp only at hSw); go_simp)
        try simp only [Act.put, List.setIfInBounds_toArray, List.set_cons_zero, List.set_cons_succ]
        refine wpAnyH_take (i := 26) (oi := ({ dst := some 63, op := Op.load 53 (Operand.tmp 3), type := 53, pos := "law.go:64", after := #[{ on := 24, ground := Ground.guard }], guard := some (24, true) })) (v := (.agg #[.int .i64 a0, .int .i64 a1, .int .i64 a2])) rfl (by kernel_rfl) (by kernel_rfl) (by kernel_rfl) (fun _ _ _ h => h) (Or.inl ⟨by rfl, ?_⟩) (by assumption) ?_
        · (intro w hSw; (try dsimp only at hSw); go_simp)
        try simp only [Act.put, List.setIfInBounds_toArray, List.set_cons_zero, List.set_cons_succ]
        refine wpAnyH_take (i := 28) (oi := ({ dst := some 65, op := Op.load 53 (Operand.tmp 3), type := 53, pos := "law.go:64", after := #[{ on := 24, ground := Ground.guard }], guard := some (24, true) })) (v := (.agg #[.int .i64 a0, .int .i64 a1, .int .i64 a2])) rfl (by kernel_rfl) (by kernel_rfl) (by kernel_rfl) (fun _ _ _ h => h) (Or.inl ⟨by rfl, ?_⟩) (by assumption) ?_
        · (intro w hSw; (try dsimp only at hSw); go_simp)
        try simp only [Act.put, List.setIfInBounds_toArray, List.set_cons_zero, List.set_cons_succ]
        refine wpAnyH_ready (rs := [27]) (by kernel_rfl) (by simp) (AllReadyH.cons (o := ({ dst := some 64, op := Op.call { callee := Callee.value (Operand.func 53), args := #[Operand.tmp 62, Operand.tmp 63], argTypes := #[53, 53] }, type := 53, pos := "law.go:64", after := #[{ on := 25, ground := Ground.data }, { on := 26, ground := Ground.data }, { on := 24, ground := Ground.chain }, { on := 24, ground := Ground.guard }], guard := some (24, true) })) rfl (fun K hK => ?_) AllReadyH.nil)
        go_simp
        refine (HM3.out _).mono ?_
        rintro e wc ⟨rfl, hbq⟩
        replace hw := hw.trans (Below.mono (by exact ⟨hbq.os, hbq.tape, hbq.output, hbq.size, hbq.block⟩) hw.size)
        clear hbq
        go_wp2_with fail
        clear hHeld
        refine hK.out _ _ ⟨keepB hw Ad0 Al, keepB hw Ad1 Al, keepB hw Ad2 Al, keepB hw Bd0 Bl, keepB hw Bd1 Bl, keepB hw Bd2 Bl, keepB hw Cd0 Cl, keepB hw Cd1 Cl, keepB hw Cd2 Cl, keepB hw Md0 Ml, keepB hw Md1 Ml, keepB hw Md2 Ml⟩ (fun hHeld => ?_)
        clear hK K
        try simp only [Act.put, List.setIfInBounds_toArray, List.set_cons_zero, List.set_cons_succ]
        refine wpAnyH_take (i := 29) (oi := ({ dst := some 66, op := Op.binOp BinOp.eql 53 (Operand.tmp 64) (Operand.tmp 65) 53, type := 4, pos := "law.go:64", after := #[{ on := 27, ground := Ground.data }, { on := 28, ground := Ground.data }, { on := 24, ground := Ground.guard }], guard := some (24, true) })) (v := (.bool true)) rfl (by kernel_rfl) (by kernel_rfl) (by kernel_rfl) (fun _ _ _ h => h) (Or.inl ⟨by rfl, ?_⟩) (by assumption) ?_
        · (intro w hSw; (try dsimp only at hSw); go_simp)
        try simp only [Act.put, List.setIfInBounds_toArray, List.set_cons_zero, List.set_cons_succ]
        refine wpAnyH_take (i := 30) (oi := ({ dst := some 67, op := Op.pick (Operand.tmp 61) (Operand.tmp 66) (Operand.const (Value.bool false)), type := 4, pos := "law.go:64", after := #[{ on := 24, ground := Ground.data }, { on := 29, ground := Ground.data }], guard := none })) (v := (.bool true)) rfl (by kernel_rfl) (by kernel_rfl) (by kernel_rfl) (fun _ _ _ h => h) (Or.inl ⟨by rfl, ?_⟩) (by assumption) ?_
        · (intro w hSw; (try dsimp only at hSw); go_simp)
        try simp only [Act.put, List.setIfInBounds_toArray, List.set_cons_zero, List.set_cons_succ]
        refine wpAnyH_take (i := 31) (oi := ({ dst := some 68, op := Op.move (Operand.tmp 67), type := 4, pos := "law.go:64", after := #[{ on := 30, ground := Ground.data }, { on := 27, ground := Ground.chain }], guard := none })) (v := (.bool true)) rfl (by kernel_rfl) (by kernel_rfl) (by kernel_rfl) (fun _ _ _ h => h) (Or.inl ⟨by rfl, ?_⟩) (by assumption) ?_
        · (intro w hSw; (try dsimp only at hSw); go_simp)
        try simp only [Act.put, List.setIfInBounds_toArray, List.set_cons_zero, List.set_cons_succ]
        refine wpAnyH_ready (rs := [32]) (by kernel_rfl) (by simp) (AllReadyH.cons (o := ({ dst := some 69, op := Op.call { callee := Callee.value (Operand.func 55), args := #[], argTypes := #[] }, type := 4, pos := "law.go:64", after := #[{ on := 31, ground := Ground.chain }, { on := 31, ground := Ground.guard }], guard := some (31, true) })) rfl (fun K hK => ?_) AllReadyH.nil)
        go_simp
        refine (AW.out _ (LL.out.below (by exact ⟨hw.os, hw.tape, hw.output, hw.size, hw.block⟩))).mono ?_
        rintro e wc ⟨rfl, hbq⟩
        replace hw := hw.trans (Below.mono (by exact ⟨hbq.os, hbq.tape, hbq.output, hbq.size, hbq.block⟩) hw.size)
        clear hbq
        go_wp2_with fail
        clear hHeld
        refine hK.out _ _ ⟨keepB hw Ad0 Al, keepB hw Ad1 Al, keepB hw Ad2 Al, keepB hw Bd0 Bl, keepB hw Bd1 Bl, keepB hw Bd2 Bl, keepB hw Cd0 Cl, keepB hw Cd1 Cl, keepB hw Cd2 Cl, keepB hw Md0 Ml, keepB hw Md1 Ml, keepB hw Md2 Ml⟩ (fun hHeld => ?_)
        clear hK K
        try simp only [Act.put, List.setIfInBounds_toArray, List.set_cons_zero, List.set_cons_succ]
        refine wpAnyH_take (i := 33) (oi := ({ dst := some 70, op := Op.pick (Operand.tmp 68) (Operand.tmp 69) (Operand.const (Value.bool false)), type := 4, pos := "law.go:64", after := #[{ on := 31, ground := Ground.data }, { on := 32, ground := Ground.data }], guard := none })) (v := (.bool true)) rfl (by kernel_rfl) (by kernel_rfl) (by kernel_rfl) (fun _ _ _ h => h) (Or.inl ⟨by rfl, ?_⟩) (by assumption) ?_
        · (intro w hSw; (try dsimp only at hSw); go_simp)
        try simp only [Act.put, List.setIfInBounds_toArray, List.set_cons_zero, List.set_cons_succ]
        refine wpAnyH_take (i := 34) (oi := ({ dst := some 6, op := Op.assign (Operand.tmp 70), type := 4, pos := "law.go:64", after := #[{ on := 33, ground := Ground.data }, { on := 32, ground := Ground.chain }, { on := 0, ground := Ground.phase }, { on := 1, ground := Ground.phase }, { on := 2, ground := Ground.phase }, { on := 3, ground := Ground.phase }, { on := 4, ground := Ground.phase }, { on := 5, ground := Ground.phase }, { on := 6, ground := Ground.phase }, { on := 7, ground := Ground.phase }, { on := 8, ground := Ground.phase }, { on := 9, ground := Ground.phase }, { on := 10, ground := Ground.phase }, { on := 11, ground := Ground.phase }, { on := 12, ground := Ground.phase }, { on := 13, ground := Ground.phase }, { on := 14, ground := Ground.phase }, { on := 15, ground := Ground.phase }, { on := 16, ground := Ground.phase }, { on := 17, ground := Ground.phase }, { on := 18, ground := Ground.phase }, { on := 19, ground := Ground.phase }, { on := 20, ground := Ground.phase }, { on := 21, ground := Ground.phase }, { on := 22, ground := Ground.phase }, { on := 23, ground := Ground.phase }, { on := 24, ground := Ground.phase }, { on := 25, ground := Ground.phase }, { on := 26, ground := Ground.phase }, { on := 27, ground := Ground.phase }, { on := 28, ground := Ground.phase }, { on := 29, ground := Ground.phase }, { on := 30, ground := Ground.phase }, { on := 31, ground := Ground.phase }, { on := 32, ground := Ground.phase }, { on := 33, ground := Ground.phase }], guard := none })) (v := (.bool true)) rfl (by kernel_rfl) (by kernel_rfl) (by kernel_rfl) (fun _ _ _ h => h) (Or.inl ⟨by rfl, ?_⟩) (by assumption) ?_
        · (intro w hSw; (try dsimp only at hSw); go_simp)
        try simp only [Act.put, List.setIfInBounds_toArray, List.set_cons_zero, List.set_cons_succ]
        refine wpAnyH_done (by kernel_rfl) ?_ _
        clear hHeld
        have KL9 := Lib.hid (KL.out.trans (hw.mono (by have := KL.out.size; have := HN.out; omega)))
        go_wp2_with fail
        go_ret
        exact ⟨rfl, KL9.out⟩
      | true =>
        obtain rfl : f3 = true := HML.out (by first | rfl | trivial) (by first | rfl | trivial)
        have Ad0 := KA.out.cell (i := 0) rfl
        have Ad1 := KA.out.cell (i := 1) rfl
        have Ad2 := KA.out.cell (i := 2) rfl
        have Bd0 := KB.out.cell (i := 0) rfl
        have Bd1 := KB.out.cell (i := 1) rfl
        have Bd2 := KB.out.cell (i := 2) rfl
        have Cd0 := KC.out.cell (i := 0) rfl
        have Cd1 := KC.out.cell (i := 1) rfl
        have Cd2 := KC.out.cell (i := 2) rfl
        have Md0 := KM.out.cell (i := 0) rfl
        have Md1 := KM.out.cell (i := 1) rfl
        have Md2 := KM.out.cell (i := 2) rfl
        have Al := KA.out.lt
        have Bl := KB.out.lt
        have Cl := KC.out.lt
        have Ml := KM.out.lt
        have hw := below_self KL.out
        refine wp_region_held_drew (S := (fun w' => w'.cell? ⟨n, 0, none⟩ = some (.int .i64 a0) ∧ w'.cell? ⟨n, 1, none⟩ = some (.int .i64 a1) ∧ w'.cell? ⟨n, 2, none⟩ = some (.int .i64 a2) ∧ w'.cell? ⟨(n + 1), 0, none⟩ = some (.int .i64 b0) ∧ w'.cell? ⟨(n + 1), 1, none⟩ = some (.int .i64 b1) ∧ w'.cell? ⟨(n + 1), 2, none⟩ = some (.int .i64 b2) ∧ w'.cell? ⟨((n + 1) + 1), 0, none⟩ = some (.int .i64 c0) ∧ w'.cell? ⟨((n + 1) + 1), 1, none⟩ = some (.int .i64 c1) ∧ w'.cell? ⟨((n + 1) + 1), 2, none⟩ = some (.int .i64 c2) ∧ w'.cell? ⟨m1, 0, none⟩ = some (.int .i64 z0) ∧ w'.cell? ⟨m1, 1, none⟩ = some (.int .i64 z1) ∧ w'.cell? ⟨m1, 2, none⟩ = some (.int .i64 z2))) (by kernel_rfl) ⟨KA.out.drew.cell (i := 0) rfl, KA.out.drew.cell (i := 1) rfl, KA.out.drew.cell (i := 2) rfl, KB.out.drew.cell (i := 0) rfl, KB.out.drew.cell (i := 1) rfl, KB.out.drew.cell (i := 2) rfl, KC.out.drew.cell (i := 0) rfl, KC.out.drew.cell (i := 1) rfl, KC.out.drew.cell (i := 2) rfl, KM.out.drew.cell (i := 0) rfl, KM.out.drew.cell (i := 1) rfl, KM.out.drew.cell (i := 2) rfl⟩ (fun hHeld => ?_)
        refine wpAnyH_take (i := 0) (oi := ({ dst := some 37, op := Op.load 53 (Operand.tmp 3), type := 53, pos := "law.go:64", after := #[], guard := none })) (v := (.agg #[.int .i64 a0, .int .i64 a1, .int .i64 a2])) rfl (by kernel_rfl) (by kernel_rfl) (by kernel_rfl) (fun _ _ _ h => h) (Or.inl ⟨by rfl, ?_⟩) (by assumption) ?_
        · (intro w hSw; (try dsimp only at hSw); go_simp)
        try simp only [Act.put, List.setIfInBounds_toArray, List.set_cons_zero, List.set_cons_succ]
        refine wpAnyH_take (i := 1) (oi := ({ dst := some 38, op := Op.load 53 (Operand.tmp 5), type := 53, pos := "law.go:64", after := #[], guard := none })) (v := (.agg #[.int .i64 c0, .int .i64 c1, .int .i64 c2])) rfl (by kernel_rfl) (by kernel_rfl) (by kernel_rfl) (fun _ _ _ h => h) (Or.inl ⟨by rfl, ?_⟩) (by assumption) ?_
        · (intro w hSw; (try dsimp only at hSw); go_simp)
        try simp only [Act.put, List.setIfInBounds_toArray, List.set_cons_zero, List.set_cons_succ]
        refine wpAnyH_ready (rs := [2]) (by kernel_rfl) (by simp) (AllReadyH.cons (o := ({ dst := some 39, op := Op.call { callee := Callee.value (Operand.func 49), args := #[Operand.tmp 37, Operand.tmp 38], argTypes := #[53, 53] }, type := 4, pos := "law.go:64", after := #[{ on := 0, ground := Ground.data }, { on := 1, ground := Ground.data }], guard := none })) rfl (fun K hK => ?_) AllReadyH.nil)
        go_simp
        refine (HF7.out _).mono ?_
        rintro e wc ⟨rfl, hbq⟩
        replace hw := hw.trans (Below.mono (by exact ⟨hbq.os, hbq.tape, hbq.output, hbq.size, hbq.block⟩) hw.size)
        clear hbq
        go_wp2_with fail
        clear hHeld
        refine hK.out _ _ ⟨keepB hw Ad0 Al, keepB hw Ad1 Al, keepB hw Ad2 Al, keepB hw Bd0 Bl, keepB hw Bd1 Bl, keepB hw Bd2 Bl, keepB hw Cd0 Cl, keepB hw Cd1 Cl, keepB hw Cd2 Cl, keepB hw Md0 Ml, keepB hw Md1 Ml, keepB hw Md2 Ml⟩ (fun hHeld => ?_)
        clear hK K
        try simp only [Act.put, List.setIfInBounds_toArray, List.set_cons_zero, List.set_cons_succ]
        refine wpAnyH_take (i := 3) (oi := ({ dst := some 40, op := Op.unOp UnOp.not 4 (Operand.tmp 39), type := 4, pos := "law.go:64", after := #[{ on := 2, ground := Ground.data }], guard := none })) (v := (.bool false)) rfl (by kernel_rfl) (by kernel_rfl) (by kernel_rfl) (fun _ _ _ h => h) (Or.inl ⟨by rfl, ?_⟩) (by assumption) ?_
        · (intro w hSw; (try dsimp only at hSw); go_simp)
        try simp only [Act.put, List.setIfInBounds_toArray, List.set_cons_zero, List.set_cons_succ]
        refine wpAnyH_take (i := 4) (oi := ({ dst := some 41, op := Op.move (Operand.tmp 40), type := 4, pos := "law.go:64", after := #[{ on := 3, ground := Ground.data }, { on := 2, ground := Ground.chain }], guard := none })) (v := (.bool false)) rfl (by kernel_rfl) (by kernel_rfl) (by kernel_rfl) (fun _ _ _ h => h) (Or.inl ⟨by rfl, ?_⟩) (by assumption) ?_
        · (intro w hSw; (try dsimp only at hSw); go_simp)
        try simp only [Act.put, List.setIfInBounds_toArray, List.set_cons_zero, List.set_cons_succ]
        refine wpAnyH_take (i := 5) (oi := ({ dst := some 42, op := Op.load 53 (Operand.tmp 4), type := 53, pos := "law.go:64", after := #[{ on := 4, ground := Ground.guard }], guard := some (4, false) })) (v := (.agg #[.int .i64 b0, .int .i64 b1, .int .i64 b2])) rfl (by kernel_rfl) (by kernel_rfl) (by kernel_rfl) (fun _ _ _ h => h) (Or.inl ⟨by rfl, ?_⟩) (by assumption) ?_
        · (intro w hSw; (try dsimp only at hSw); go_simp)
        try simp only [Act.put, List.setIfInBounds_toArray, List.set_cons_zero, List.set_cons_succ]
        refine wpAnyH_take (i := 6) (oi := ({ dst := some 43, op := Op.load 53 (Operand.tmp 5), type := 53, pos := "law.go:64", after := #[{ on := 4, ground := Ground.guard }], guard := some (4, false) })) (v := (.agg #[.int .i64 c0, .int .i64 c1, .int .i64 c2])) rfl (by kernel_rfl) (by kernel_rfl) (by kernel_rfl) (fun _ _ _ h => h) (Or.inl ⟨by rfl, ?_⟩) (by assumption) ?_
        · (intro w hSw; (try dsimp only at hSw); go_simp)
        try simp only [Act.put, List.setIfInBounds_toArray, List.set_cons_zero, List.set_cons_succ]
        refine wpAnyH_ready (rs := [7]) (by kernel_rfl) (by simp) (AllReadyH.cons (o := ({ dst := some 44, op := Op.call { callee := Callee.value (Operand.func 49), args := #[Operand.tmp 42, Operand.tmp 43], argTypes := #[53, 53] }, type := 4, pos := "law.go:64", after := #[{ on := 5, ground := Ground.data }, { on := 6, ground := Ground.data }, { on := 4, ground := Ground.chain }, { on := 4, ground := Ground.guard }], guard := some (4, false) })) rfl (fun K hK => ?_) AllReadyH.nil)
        go_simp
        refine (HF8.out _).mono ?_
        rintro e wc ⟨rfl, hbq⟩
        replace hw := hw.trans (Below.mono (by exact ⟨hbq.os, hbq.tape, hbq.output, hbq.size, hbq.block⟩) hw.size)
        clear hbq
        go_wp2_with fail
        clear hHeld
        refine hK.out _ _ ⟨keepB hw Ad0 Al, keepB hw Ad1 Al, keepB hw Ad2 Al, keepB hw Bd0 Bl, keepB hw Bd1 Bl, keepB hw Bd2 Bl, keepB hw Cd0 Cl, keepB hw Cd1 Cl, keepB hw Cd2 Cl, keepB hw Md0 Ml, keepB hw Md1 Ml, keepB hw Md2 Ml⟩ (fun hHeld => ?_)
        clear hK K
        try simp only [Act.put, List.setIfInBounds_toArray, List.set_cons_zero, List.set_cons_succ]
        refine wpAnyH_take (i := 8) (oi := ({ dst := some 45, op := Op.unOp UnOp.not 4 (Operand.tmp 44), type := 4, pos := "law.go:64", after := #[{ on := 7, ground := Ground.data }, { on := 4, ground := Ground.guard }], guard := some (4, false) })) (v := (.bool false)) rfl (by kernel_rfl) (by kernel_rfl) (by kernel_rfl) (fun _ _ _ h => h) (Or.inl ⟨by rfl, ?_⟩) (by assumption) ?_
        · (intro w hSw; (try dsimp only at hSw); go_simp)
        try simp only [Act.put, List.setIfInBounds_toArray, List.set_cons_zero, List.set_cons_succ]
        refine wpAnyH_take (i := 9) (oi := ({ dst := some 46, op := Op.pick (Operand.tmp 41) (Operand.const (Value.bool true)) (Operand.tmp 45), type := 4, pos := "law.go:64", after := #[{ on := 4, ground := Ground.data }, { on := 8, ground := Ground.data }], guard := none })) (v := (.bool false)) rfl (by kernel_rfl) (by kernel_rfl) (by kernel_rfl) (fun _ _ _ h => h) (Or.inl ⟨by rfl, ?_⟩) (by assumption) ?_
        · (intro w hSw; (try dsimp only at hSw); go_simp)
        try simp only [Act.put, List.setIfInBounds_toArray, List.set_cons_zero, List.set_cons_succ]
        refine wpAnyH_take (i := 10) (oi := ({ dst := some 47, op := Op.move (Operand.tmp 46), type := 4, pos := "law.go:64", after := #[{ on := 9, ground := Ground.data }, { on := 7, ground := Ground.chain }], guard := none })) (v := (.bool false)) rfl (by kernel_rfl) (by kernel_rfl) (by kernel_rfl) (fun _ _ _ h => h) (Or.inl ⟨by rfl, ?_⟩) (by assumption) ?_
        · (intro w hSw; (try dsimp only at hSw); go_simp)
        try simp only [Act.put, List.setIfInBounds_toArray, List.set_cons_zero, List.set_cons_succ]
        refine wpAnyH_take (i := 11) (oi := ({ dst := some 48, op := Op.load 53 (Operand.tmp 7), type := 53, pos := "law.go:64", after := #[{ on := 10, ground := Ground.guard }], guard := some (10, false) })) (v := (.agg #[.int .i64 z0, .int .i64 z1, .int .i64 z2])) rfl (by kernel_rfl) (by kernel_rfl) (by kernel_rfl) (fun _ _ _ h => h) (Or.inl ⟨by rfl, ?_⟩) (by assumption) ?_
        · (intro w hSw; (try dsimp only at hSw); go_simp)
        try simp only [Act.put, List.setIfInBounds_toArray, List.set_cons_zero, List.set_cons_succ]
        refine wpAnyH_take (i := 12) (oi := ({ dst := some 49, op := Op.load 53 (Operand.tmp 5), type := 53, pos := "law.go:64", after := #[{ on := 10, ground := Ground.guard }], guard := some (10, false) })) (v := (.agg #[.int .i64 c0, .int .i64 c1, .int .i64 c2])) rfl (by kernel_rfl) (by kernel_rfl) (by kernel_rfl) (fun _ _ _ h => h) (Or.inl ⟨by rfl, ?_⟩) (by assumption) ?_
        · (intro w hSw; (try dsimp only at hSw); go_simp)
        try simp only [Act.put, List.setIfInBounds_toArray, List.set_cons_zero, List.set_cons_succ]
        refine wpAnyH_ready (rs := [13]) (by kernel_rfl) (by simp) (AllReadyH.cons (o := ({ dst := some 50, op := Op.call { callee := Callee.value (Operand.func 49), args := #[Operand.tmp 48, Operand.tmp 49], argTypes := #[53, 53] }, type := 4, pos := "law.go:64", after := #[{ on := 11, ground := Ground.data }, { on := 12, ground := Ground.data }, { on := 10, ground := Ground.chain }, { on := 10, ground := Ground.guard }], guard := some (10, false) })) rfl (fun K hK => ?_) AllReadyH.nil)
        go_simp
        refine (HF6.out _).mono ?_
        rintro e wc ⟨rfl, hbq⟩
        replace hw := hw.trans (Below.mono (by exact ⟨hbq.os, hbq.tape, hbq.output, hbq.size, hbq.block⟩) hw.size)
        clear hbq
        go_wp2_with fail
        clear hHeld
        refine hK.out _ _ ⟨keepB hw Ad0 Al, keepB hw Ad1 Al, keepB hw Ad2 Al, keepB hw Bd0 Bl, keepB hw Bd1 Bl, keepB hw Bd2 Bl, keepB hw Cd0 Cl, keepB hw Cd1 Cl, keepB hw Cd2 Cl, keepB hw Md0 Ml, keepB hw Md1 Ml, keepB hw Md2 Ml⟩ (fun hHeld => ?_)
        clear hK K
        try simp only [Act.put, List.setIfInBounds_toArray, List.set_cons_zero, List.set_cons_succ]
        refine wpAnyH_take (i := 14) (oi := ({ dst := some 51, op := Op.pick (Operand.tmp 47) (Operand.const (Value.bool true)) (Operand.tmp 50), type := 4, pos := "law.go:64", after := #[{ on := 10, ground := Ground.data }, { on := 13, ground := Ground.data }], guard := none })) (v := (.bool true)) rfl (by kernel_rfl) (by kernel_rfl) (by kernel_rfl) (fun _ _ _ h => h) (Or.inl ⟨by rfl, ?_⟩) (by assumption) ?_
        · (intro w hSw; (try dsimp only at hSw); go_simp)
        try simp only [Act.put, List.setIfInBounds_toArray, List.set_cons_zero, List.set_cons_succ]
        refine wpAnyH_take (i := 15) (oi := ({ dst := some 52, op := Op.move (Operand.tmp 51), type := 4, pos := "law.go:64", after := #[{ on := 14, ground := Ground.data }, { on := 13, ground := Ground.chain }], guard := none })) (v := (.bool true)) rfl (by kernel_rfl) (by kernel_rfl) (by kernel_rfl) (fun _ _ _ h => h) (Or.inl ⟨by rfl, ?_⟩) (by assumption) ?_
        · (intro w hSw; (try dsimp only at hSw); go_simp)
        try simp only [Act.put, List.setIfInBounds_toArray, List.set_cons_zero, List.set_cons_succ]
        refine wpAnyH_take (i := 16) (oi := ({ dst := some 53, op := Op.load 53 (Operand.tmp 3), type := 53, pos := "law.go:64", after := #[{ on := 15, ground := Ground.guard }], guard := some (15, true) })) (v := (.agg #[.int .i64 a0, .int .i64 a1, .int .i64 a2])) rfl (by kernel_rfl) (by kernel_rfl) (by kernel_rfl) (fun _ _ _ h => h) (Or.inl ⟨by rfl, ?_⟩) (by assumption) ?_
        · (intro w hSw; (try dsimp only at hSw); go_simp)
        try simp only [Act.put, List.setIfInBounds_toArray, List.set_cons_zero, List.set_cons_succ]
        refine wpAnyH_take (i := 17) (oi := ({ dst := some 54, op := Op.load 53 (Operand.tmp 4), type := 53, pos := "law.go:64", after := #[{ on := 15, ground := Ground.guard }], guard := some (15, true) })) (v := (.agg #[.int .i64 b0, .int .i64 b1, .int .i64 b2])) rfl (by kernel_rfl) (by kernel_rfl) (by kernel_rfl) (fun _ _ _ h => h) (Or.inl ⟨by rfl, ?_⟩) (by assumption) ?_
        · (intro w hSw; (try dsimp only at hSw); go_simp)
        try simp only [Act.put, List.setIfInBounds_toArray, List.set_cons_zero, List.set_cons_succ]
        refine wpAnyH_take (i := 19) (oi := ({ dst := some 56, op := Op.load 53 (Operand.tmp 4), type := 53, pos := "law.go:64", after := #[{ on := 15, ground := Ground.guard }], guard := some (15, true) })) (v := (.agg #[.int .i64 b0, .int .i64 b1, .int .i64 b2])) rfl (by kernel_rfl) (by kernel_rfl) (by kernel_rfl) (fun _ _ _ h => h) (Or.inl ⟨by rfl, ?_⟩) (by assumption) ?_
        · (intro w hSw; (try dsimp only at hSw); go_simp)
        try simp only [Act.put, List.setIfInBounds_toArray, List.set_cons_zero, List.set_cons_succ]
        refine wpAnyH_take (i := 20) (oi := ({ dst := some 57, op := Op.load 53 (Operand.tmp 3), type := 53, pos := "law.go:64", after := #[{ on := 15, ground := Ground.guard }], guard := some (15, true) })) (v := (.agg #[.int .i64 a0, .int .i64 a1, .int .i64 a2])) rfl (by kernel_rfl) (by kernel_rfl) (by kernel_rfl) (fun _ _ _ h => h) (Or.inl ⟨by rfl, ?_⟩) (by assumption) ?_
        · (intro w hSw; (try dsimp only at hSw); go_simp)
        try simp only [Act.put, List.setIfInBounds_toArray, List.set_cons_zero, List.set_cons_succ]
        refine wpAnyH_ready (rs := [18]) (by kernel_rfl) (by simp) (AllReadyH.cons (o := ({ dst := some 55, op := Op.call { callee := Callee.value (Operand.func 53), args := #[Operand.tmp 53, Operand.tmp 54], argTypes := #[53, 53] }, type := 53, pos := "law.go:64", after := #[{ on := 16, ground := Ground.data }, { on := 17, ground := Ground.data }, { on := 15, ground := Ground.chain }, { on := 15, ground := Ground.guard }], guard := some (15, true) })) rfl (fun K hK => ?_) AllReadyH.nil)
        go_simp
        refine (HM1.out _).mono ?_
        rintro e wc ⟨rfl, hbq⟩
        replace hw := hw.trans (Below.mono (by exact ⟨hbq.os, hbq.tape, hbq.output, hbq.size, hbq.block⟩) hw.size)
        clear hbq
        go_wp2_with fail
        clear hHeld
        refine hK.out _ _ ⟨keepB hw Ad0 Al, keepB hw Ad1 Al, keepB hw Ad2 Al, keepB hw Bd0 Bl, keepB hw Bd1 Bl, keepB hw Bd2 Bl, keepB hw Cd0 Cl, keepB hw Cd1 Cl, keepB hw Cd2 Cl, keepB hw Md0 Ml, keepB hw Md1 Ml, keepB hw Md2 Ml⟩ (fun hHeld => ?_)
        clear hK K
        try simp only [Act.put, List.setIfInBounds_toArray, List.set_cons_zero, List.set_cons_succ]
        refine wpAnyH_ready (rs := [21]) (by kernel_rfl) (by simp) (AllReadyH.cons (o := ({ dst := some 58, op := Op.call { callee := Callee.value (Operand.func 53), args := #[Operand.tmp 56, Operand.tmp 57], argTypes := #[53, 53] }, type := 53, pos := "law.go:64", after := #[{ on := 19, ground := Ground.data }, { on := 20, ground := Ground.data }, { on := 18, ground := Ground.chain }, { on := 15, ground := Ground.guard }], guard := some (15, true) })) rfl (fun K hK => ?_) AllReadyH.nil)
        go_simp
        refine (HM2.out _).mono ?_
        rintro e wc ⟨rfl, hbq⟩
        replace hw := hw.trans (Below.mono (by exact ⟨hbq.os, hbq.tape, hbq.output, hbq.size, hbq.block⟩) hw.size)
        clear hbq
        go_wp2_with fail
        clear hHeld
        refine hK.out _ _ ⟨keepB hw Ad0 Al, keepB hw Ad1 Al, keepB hw Ad2 Al, keepB hw Bd0 Bl, keepB hw Bd1 Bl, keepB hw Bd2 Bl, keepB hw Cd0 Cl, keepB hw Cd1 Cl, keepB hw Cd2 Cl, keepB hw Md0 Ml, keepB hw Md1 Ml, keepB hw Md2 Ml⟩ (fun hHeld => ?_)
        clear hK K
        try simp only [Act.put, List.setIfInBounds_toArray, List.set_cons_zero, List.set_cons_succ]
        refine wpAnyH_take (i := 22) (oi := ({ dst := some 59, op := Op.binOp BinOp.eql 53 (Operand.tmp 55) (Operand.tmp 58) 53, type := 4, pos := "law.go:64", after := #[{ on := 18, ground := Ground.data }, { on := 21, ground := Ground.data }, { on := 15, ground := Ground.guard }], guard := some (15, true) })) (v := (.bool true)) rfl (by kernel_rfl) (by kernel_rfl) (by kernel_rfl) (fun _ _ _ h => h) (Or.inl ⟨by rfl, ?_⟩) (by assumption) ?_
        · (intro w hSw; (try dsimp only at hSw); go_simp)
        try simp only [Act.put, List.setIfInBounds_toArray, List.set_cons_zero, List.set_cons_succ]
        refine wpAnyH_take (i := 23) (oi := ({ dst := some 60, op := Op.pick (Operand.tmp 52) (Operand.tmp 59) (Operand.const (Value.bool false)), type := 4, pos := "law.go:64", after := #[{ on := 15, ground := Ground.data }, { on := 22, ground := Ground.data }], guard := none })) (v := (.bool true)) rfl (by kernel_rfl) (by kernel_rfl) (by kernel_rfl) (fun _ _ _ h => h) (Or.inl ⟨by rfl, ?_⟩) (by assumption) ?_
        · (intro w hSw; (try dsimp only at hSw); go_simp)
        try simp only [Act.put, List.setIfInBounds_toArray, List.set_cons_zero, List.set_cons_succ]
        refine wpAnyH_take (i := 24) (oi := ({ dst := some 61, op := Op.move (Operand.tmp 60), type := 4, pos := "law.go:64", after := #[{ on := 23, ground := Ground.data }, { on := 21, ground := Ground.chain }], guard := none })) (v := (.bool true)) rfl (by kernel_rfl) (by kernel_rfl) (by kernel_rfl) (fun _ _ _ h => h) (Or.inl ⟨by rfl, ?_⟩) (by assumption) ?_
        · (intro w hSw; (try dsimp only at hSw); go_simp)
        try simp only [Act.put, List.setIfInBounds_toArray, List.set_cons_zero, List.set_cons_succ]
        refine wpAnyH_take (i := 25) (oi := ({ dst := some 62, op := Op.load 53 (Operand.tmp 3), type := 53, pos := "law.go:64", after := #[{ on := 24, ground := Ground.guard }], guard := some (24, true) })) (v := (.agg #[.int .i64 a0, .int .i64 a1, .int .i64 a2])) rfl (by kernel_rfl) (by kernel_rfl) (by kernel_rfl) (fun _ _ _ h => h) (Or.inl ⟨by rfl, ?_⟩) (by assumption) ?_
        · (intro w hSw; (try dsimp only at hSw); go_simp)
        try simp only [Act.put, List.setIfInBounds_toArray, List.set_cons_zero, List.set_cons_succ]
        refine wpAnyH_take (i := 26) (oi := ({ dst := some 63, op := Op.load 53 (Operand.tmp 3), type := 53, pos := "law.go:64", after := #[{ on := 24, ground := Ground.guard }], guard := some (24, true) })) (v := (.agg #[.int .i64 a0, .int .i64 a1, .int .i64 a2])) rfl (by kernel_rfl) (by kernel_rfl) (by kernel_rfl) (fun _ _ _ h => h) (Or.inl ⟨by rfl, ?_⟩) (by assumption) ?_
        · (intro w hSw; (try dsimp only at hSw); go_simp)
        try simp only [Act.put, List.setIfInBounds_toArray, List.set_cons_zero, List.set_cons_succ]
        refine wpAnyH_take (i := 28) (oi := ({ dst := some 65, op := Op.load 53 (Operand.tmp 3), type := 53, pos := "law.go:64", after := #[{ on := 24, ground := Ground.guard }], guard := some (24, true) })) (v := (.agg #[.int .i64 a0, .int .i64 a1, .int .i64 a2])) rfl (by kernel_rfl) (by kernel_rfl) (by kernel_rfl) (fun _ _ _ h => h) (Or.inl ⟨by rfl, ?_⟩) (by assumption) ?_
        · (intro w hSw; (try dsimp only at hSw); go_simp)
        try simp only [Act.put, List.setIfInBounds_toArray, List.set_cons_zero, List.set_cons_succ]
        refine wpAnyH_ready (rs := [27]) (by kernel_rfl) (by simp) (AllReadyH.cons (o := ({ dst := some 64, op := Op.call { callee := Callee.value (Operand.func 53), args := #[Operand.tmp 62, Operand.tmp 63], argTypes := #[53, 53] }, type := 53, pos := "law.go:64", after := #[{ on := 25, ground := Ground.data }, { on := 26, ground := Ground.data }, { on := 24, ground := Ground.chain }, { on := 24, ground := Ground.guard }], guard := some (24, true) })) rfl (fun K hK => ?_) AllReadyH.nil)
        go_simp
        refine (HM3.out _).mono ?_
        rintro e wc ⟨rfl, hbq⟩
        replace hw := hw.trans (Below.mono (by exact ⟨hbq.os, hbq.tape, hbq.output, hbq.size, hbq.block⟩) hw.size)
        clear hbq
        go_wp2_with fail
        clear hHeld
        refine hK.out _ _ ⟨keepB hw Ad0 Al, keepB hw Ad1 Al, keepB hw Ad2 Al, keepB hw Bd0 Bl, keepB hw Bd1 Bl, keepB hw Bd2 Bl, keepB hw Cd0 Cl, keepB hw Cd1 Cl, keepB hw Cd2 Cl, keepB hw Md0 Ml, keepB hw Md1 Ml, keepB hw Md2 Ml⟩ (fun hHeld => ?_)
        clear hK K
        try simp only [Act.put, List.setIfInBounds_toArray, List.set_cons_zero, List.set_cons_succ]
        refine wpAnyH_take (i := 29) (oi := ({ dst := some 66, op := Op.binOp BinOp.eql 53 (Operand.tmp 64) (Operand.tmp 65) 53, type := 4, pos := "law.go:64", after := #[{ on := 27, ground := Ground.data }, { on := 28, ground := Ground.data }, { on := 24, ground := Ground.guard }], guard := some (24, true) })) (v := (.bool true)) rfl (by kernel_rfl) (by kernel_rfl) (by kernel_rfl) (fun _ _ _ h => h) (Or.inl ⟨by rfl, ?_⟩) (by assumption) ?_
        · (intro w hSw; (try dsimp only at hSw); go_simp)
        try simp only [Act.put, List.setIfInBounds_toArray, List.set_cons_zero, List.set_cons_succ]
        refine wpAnyH_take (i := 30) (oi := ({ dst := some 67, op := Op.pick (Operand.tmp 61) (Operand.tmp 66) (Operand.const (Value.bool false)), type := 4, pos := "law.go:64", after := #[{ on := 24, ground := Ground.data }, { on := 29, ground := Ground.data }], guard := none })) (v := (.bool true)) rfl (by kernel_rfl) (by kernel_rfl) (by kernel_rfl) (fun _ _ _ h => h) (Or.inl ⟨by rfl, ?_⟩) (by assumption) ?_
        · (intro w hSw; (try dsimp only at hSw); go_simp)
        try simp only [Act.put, List.setIfInBounds_toArray, List.set_cons_zero, List.set_cons_succ]
        refine wpAnyH_take (i := 31) (oi := ({ dst := some 68, op := Op.move (Operand.tmp 67), type := 4, pos := "law.go:64", after := #[{ on := 30, ground := Ground.data }, { on := 27, ground := Ground.chain }], guard := none })) (v := (.bool true)) rfl (by kernel_rfl) (by kernel_rfl) (by kernel_rfl) (fun _ _ _ h => h) (Or.inl ⟨by rfl, ?_⟩) (by assumption) ?_
        · (intro w hSw; (try dsimp only at hSw); go_simp)
        try simp only [Act.put, List.setIfInBounds_toArray, List.set_cons_zero, List.set_cons_succ]
        refine wpAnyH_ready (rs := [32]) (by kernel_rfl) (by simp) (AllReadyH.cons (o := ({ dst := some 69, op := Op.call { callee := Callee.value (Operand.func 55), args := #[], argTypes := #[] }, type := 4, pos := "law.go:64", after := #[{ on := 31, ground := Ground.chain }, { on := 31, ground := Ground.guard }], guard := some (31, true) })) rfl (fun K hK => ?_) AllReadyH.nil)
        go_simp
        refine (AW.out _ (LL.out.below (by exact ⟨hw.os, hw.tape, hw.output, hw.size, hw.block⟩))).mono ?_
        rintro e wc ⟨rfl, hbq⟩
        replace hw := hw.trans (Below.mono (by exact ⟨hbq.os, hbq.tape, hbq.output, hbq.size, hbq.block⟩) hw.size)
        clear hbq
        go_wp2_with fail
        clear hHeld
        refine hK.out _ _ ⟨keepB hw Ad0 Al, keepB hw Ad1 Al, keepB hw Ad2 Al, keepB hw Bd0 Bl, keepB hw Bd1 Bl, keepB hw Bd2 Bl, keepB hw Cd0 Cl, keepB hw Cd1 Cl, keepB hw Cd2 Cl, keepB hw Md0 Ml, keepB hw Md1 Ml, keepB hw Md2 Ml⟩ (fun hHeld => ?_)
        clear hK K
        try simp only [Act.put, List.setIfInBounds_toArray, List.set_cons_zero, List.set_cons_succ]
        refine wpAnyH_take (i := 33) (oi := ({ dst := some 70, op := Op.pick (Operand.tmp 68) (Operand.tmp 69) (Operand.const (Value.bool false)), type := 4, pos := "law.go:64", after := #[{ on := 31, ground := Ground.data }, { on := 32, ground := Ground.data }], guard := none })) (v := (.bool true)) rfl (by kernel_rfl) (by kernel_rfl) (by kernel_rfl) (fun _ _ _ h => h) (Or.inl ⟨by rfl, ?_⟩) (by assumption) ?_
        · (intro w hSw; (try dsimp only at hSw); go_simp)
        try simp only [Act.put, List.setIfInBounds_toArray, List.set_cons_zero, List.set_cons_succ]
        refine wpAnyH_take (i := 34) (oi := ({ dst := some 6, op := Op.assign (Operand.tmp 70), type := 4, pos := "law.go:64", after := #[{ on := 33, ground := Ground.data }, { on := 32, ground := Ground.chain }, { on := 0, ground := Ground.phase }, { on := 1, ground := Ground.phase }, { on := 2, ground := Ground.phase }, { on := 3, ground := Ground.phase }, { on := 4, ground := Ground.phase }, { on := 5, ground := Ground.phase }, { on := 6, ground := Ground.phase }, { on := 7, ground := Ground.phase }, { on := 8, ground := Ground.phase }, { on := 9, ground := Ground.phase }, { on := 10, ground := Ground.phase }, { on := 11, ground := Ground.phase }, { on := 12, ground := Ground.phase }, { on := 13, ground := Ground.phase }, { on := 14, ground := Ground.phase }, { on := 15, ground := Ground.phase }, { on := 16, ground := Ground.phase }, { on := 17, ground := Ground.phase }, { on := 18, ground := Ground.phase }, { on := 19, ground := Ground.phase }, { on := 20, ground := Ground.phase }, { on := 21, ground := Ground.phase }, { on := 22, ground := Ground.phase }, { on := 23, ground := Ground.phase }, { on := 24, ground := Ground.phase }, { on := 25, ground := Ground.phase }, { on := 26, ground := Ground.phase }, { on := 27, ground := Ground.phase }, { on := 28, ground := Ground.phase }, { on := 29, ground := Ground.phase }, { on := 30, ground := Ground.phase }, { on := 31, ground := Ground.phase }, { on := 32, ground := Ground.phase }, { on := 33, ground := Ground.phase }], guard := none })) (v := (.bool true)) rfl (by kernel_rfl) (by kernel_rfl) (by kernel_rfl) (fun _ _ _ h => h) (Or.inl ⟨by rfl, ?_⟩) (by assumption) ?_
        · (intro w hSw; (try dsimp only at hSw); go_simp)
        try simp only [Act.put, List.setIfInBounds_toArray, List.set_cons_zero, List.set_cons_succ]
        refine wpAnyH_done (by kernel_rfl) ?_ _
        clear hHeld
        have KL9 := Lib.hid (KL.out.trans (hw.mono (by have := KL.out.size; have := HN.out; omega)))
        go_wp2_with fail
        go_ret
        exact ⟨rfl, KL9.out⟩
theorem walk_ResOrders (a0 a1 a2 b0 b1 b2 c0 c1 c2 : Int) (w : World) (_ : (Lit.int .i64 a0).wf = true) (_ : (Lit.int .i64 a1).wf = true) (_ : (Lit.int .i64 a2).wf = true) (_ : (Lit.int .i64 b0).wf = true) (_ : (Lit.int .i64 b1).wf = true) (_ : (Lit.int .i64 b2).wf = true) (_ : (Lit.int .i64 c0).wf = true) (_ : (Lit.int .i64 c1).wf = true) (_ : (Lit.int .i64 c2).wf = true) (hl : laidMetH Tryd.prog Rows.resOrdersRow.laid w) :
    Calls Tryd.prog 12 #[.agg #[.int .i64 a0, .int .i64 a1, .int .i64 a2], .agg #[.int .i64 b0, .int .i64 b1, .int .i64 b2], .agg #[.int .i64 c0, .int .i64 c1, .int .i64 c2]] w fun e w' => e = .returned (.bool true) ∧ Below w.heap.size w w' :=
  walk_ro a0 a1 a2 b0 b1 b2 c0 c1 c2 w (laid_of7 hl)
end Go.Proofs.YtogjckengmkfiaaDoor
