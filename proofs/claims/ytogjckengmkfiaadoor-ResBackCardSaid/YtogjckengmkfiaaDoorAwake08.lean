/-
  What must come whatever the arguments are (the statements of reeve's layer 8): the walk.
-/
import Derived.Test.YtogjckengmkfiaaDoorResLaw
import Derived.Test.YtogjckengmkfiaaDoorAwake05
import Derived.Test.YtogjckengmkfiaaDoorDecLaid
namespace Go.Proofs.YtogjckengmkfiaaDoor
open Go.RowKit
set_option linter.unusedVariables false
set_option linter.unusedSimpArgs false

theorem eql_same (a : List Int) (ha : a.length = 3) (w : World) : (binOp .eql 53 (.agg (cellsI a)) (.agg (cellsI a))).run Tryd.prog w = .ok (.bool true) w := by
  rw [eql_res a a ha ha w, decide_eq_true rfl]
theorem aw8_list : listL [1, 2, 5] = [49, 44, 50, 44, 53] := by
  have h1 : Lib.itoa 1 = [49] := aw5_c
  have h2 : Lib.itoa 2 = [50] := by rw [itoa_pos _ (by decide), show ((2 : Int)).toNat = 2 from rfl, dec_small 2 (by decide)]; decide
  have h5 : Lib.itoa 5 = [53] := by rw [itoa_pos _ (by decide), show ((5 : Int)).toNat = 5 from rfl, dec_small 5 (by decide)]; decide
  unfold listL
  simp [h1, h2, h5, Lib.join, Lib.joinTail]
theorem aw8_parse : resP [49, 44, 50, 44, 53] = ([1, 2, 5], 0) := by
  rw [← aw8_list]
  exact resP_listL _ rfl (by intro n hn; simp at hn; rcases hn with rfl | rfl | rfl <;> decide)
set_option maxRecDepth 100000 in
set_option maxHeartbeats 3200000 in
theorem awake08 (w : World) (hL : Laid w) : Calls Tryd.prog 55 #[] w fun e w' => e = .returned (.bool true) ∧ Below w.heap.size w w' := by
  have H1 := Lib.hid (fun (w : World) => show Calls Tryd.prog 45 #[.agg #[.int .i64 4, .int .i64 4, .int .i64 4], .agg #[.int .i64 1, .int .i64 2, .int .i64 5]] w fun e w' => e = .returned (.tuple #[.agg #[.int .i64 0, .int .i64 0, .int .i64 0], .bool false]) ∧ Below w.heap.size w w' from (res_sub [4, 4, 4] [1, 2, 5] rfl rfl w).mono (fun e w' h => ⟨h.1.trans (by rw [show bothR subW [4, 4, 4] [1, 2, 5] = ([0, 0, 0], false) by decide +kernel]; rfl), h.2⟩))
  have H2 := Lib.hid (fun (w : World) => show Calls Tryd.prog 43 #[.agg #[.int .i64 4, .int .i64 4, .int .i64 4], .agg #[.int .i64 1, .int .i64 2, .int .i64 5]] w fun e w' => e = .returned (.tuple #[.agg #[.int .i64 5, .int .i64 6, .int .i64 9], .bool true]) ∧ Below w.heap.size w w' from (res_add [4, 4, 4] [1, 2, 5] rfl rfl w).mono (fun e w' h => ⟨h.1.trans (by rw [show bothR addW [4, 4, 4] [1, 2, 5] = ([5, 6, 9], true) by decide +kernel]; rfl), h.2⟩))
  have H3 := Lib.hid (fun (w : World) (hL : Laid w) => show Calls Tryd.prog 56 #[.string ⟨#[49, 44, 50, 44, 53]⟩] w fun e w' => e = .returned (.tuple #[.agg #[.int .i64 1, .int .i64 2, .int .i64 5], .int .i64 0]) ∧ Below w.heap.size w w' from (res_parse ⟨#[49, 44, 50, 44, 53]⟩ (by decide) w hL).mono (fun e w' h => ⟨h.1.trans (by rw [show (⟨#[49, 44, 50, 44, 53]⟩ : ByteArray).data.toList = [49, 44, 50, 44, 53] from rfl, aw8_parse]; rfl), h.2⟩))
  have H4 := Lib.hid (fun (w : World) (hL : Laid w) => show Calls Tryd.prog 58 #[.agg #[.int .i64 1, .int .i64 2, .int .i64 5]] w fun e w' => e = .returned (.string ⟨#[49, 44, 50, 44, 53]⟩) ∧ Below w.heap.size w w' from (res_text [1, 2, 5] rfl (by intro n hn; simp at hn; rcases hn with rfl | rfl | rfl <;> decide) w hL).mono (fun e w' h => ⟨h.1.trans (by rw [aw8_list]; rfl), h.2⟩))
  have H5 := Lib.hid (fun (w : World) => show Calls Tryd.prog 53 #[.agg #[.int .i64 4, .int .i64 4, .int .i64 4], .agg #[.int .i64 1, .int .i64 2, .int .i64 5]] w fun e w' => e = .returned (.agg #[.int .i64 4, .int .i64 4, .int .i64 5]) ∧ Below w.heap.size w w' from (res_most [4, 4, 4] [1, 2, 5] rfl rfl w).mono (fun e w' h => ⟨h.1.trans (by rw [show mostL [4, 4, 4] [1, 2, 5] = [4, 4, 5] by decide]; rfl), h.2⟩))
  have H6 := Lib.hid (fun (w : World) => show Calls Tryd.prog 51 #[.agg #[.int .i64 1, .int .i64 2, .int .i64 5], .agg #[.int .i64 4, .int .i64 4, .int .i64 4]] w fun e w' => e = .returned (.bool true) ∧ Below w.heap.size w w' from (res_less [1, 2, 5] [4, 4, 4] rfl rfl w).mono (fun e w' h => ⟨h.1.trans (by rw [show lessB [1, 2, 5] [4, 4, 4] = true by decide]), h.2⟩))
  have H7 := Lib.hid (fun (w : World) => show Calls Tryd.prog 49 #[.agg #[.int .i64 1, .int .i64 2, .int .i64 5], .agg #[.int .i64 4, .int .i64 4, .int .i64 4]] w fun e w' => e = .returned (.bool false) ∧ Below w.heap.size w w' from (res_fits [1, 2, 5] [4, 4, 4] rfl rfl w).mono (fun e w' h => ⟨h.1.trans (by rw [show fitsB [1, 2, 5] [4, 4, 4] = false by decide]), h.2⟩))
  have H8 := Lib.hid (fun (w : World) => show Calls Tryd.prog 47 #[.agg #[.int .i64 4, .int .i64 4, .int .i64 4]] w fun e w' => e = .returned (.bool true) ∧ Below w.heap.size w w' from (res_right [4, 4, 4] rfl w).mono (fun e w' h => ⟨h.1.trans (by rw [show resB [4, 4, 4] = true by decide]), h.2⟩))
  have q569 : ∀ w, (binOp .eql 53 (.agg #[.int .i64 5, .int .i64 6, .int .i64 9]) (.agg #[.int .i64 5, .int .i64 6, .int .i64 9])).run Tryd.prog w = .ok (.bool true) w := fun w => eql_same [5, 6, 9] rfl w
  have q125 : ∀ w, (binOp .eql 53 (.agg #[.int .i64 1, .int .i64 2, .int .i64 5]) (.agg #[.int .i64 1, .int .i64 2, .int .i64 5])).run Tryd.prog w = .ok (.bool true) w := fun w => eql_same [1, 2, 5] rfl w
  have q445 : ∀ w, (binOp .eql 53 (.agg #[.int .i64 4, .int .i64 4, .int .i64 5]) (.agg #[.int .i64 4, .int .i64 4, .int .i64 5])).run Tryd.prog w = .ok (.bool true) w := fun w => eql_same [4, 4, 5] rfl w
  obtain ⟨n, hn⟩ : ∃ n, w.heap.size = n := ⟨_, rfl⟩
  obtain ⟨W, hW⟩ : ∃ W, (w.alloc (.cells #[.int .i64 4, .int .i64 4, .int .i64 4] 53)).alloc (.cells #[.int .i64 1, .int .i64 2, .int .i64 5] 53) = W := ⟨_, rfl⟩
  obtain ⟨kA, kB, kl, kz⟩ := two_boxes w n hn _ _ _ W hW
  have KA := Lib.hid kA
  have KB := Lib.hid kB
  have KL := Lib.hid kl
  have LL := Lib.hid (hL.below (hn ▸ kl))
  have HW := Lib.hid hW
  have HN := Lib.hid hn
  rw [hn]
  clear hW kl kz kA kB hL
  go_enter Tryd.func55, Tryd.ntmps55
  go_upto_region 2 with fail
  rw [HW.out]
  try rw [HN.out]
  clear HW
  have Ad0 := KA.out.cell (i := 0) rfl
  have Ad1 := KA.out.cell (i := 1) rfl
  have Ad2 := KA.out.cell (i := 2) rfl
  have Bd0 := KB.out.cell (i := 0) rfl
  have Bd1 := KB.out.cell (i := 1) rfl
  have Bd2 := KB.out.cell (i := 2) rfl
  go_wp2_with fail
  refine (H1.out _).mono ?_
  rintro e w1 ⟨rfl, hb⟩
  replace KA := Lib.hid (KA.out.below hb KA.out.lt)
  replace KB := Lib.hid (KB.out.below hb KB.out.lt)
  replace KL := Lib.hid (KL.out.trans (hb.mono (by have := KL.out.size; have := HN.out; omega)))
  replace LL := Lib.hid (LL.out.below hb)
  clear hb
  clear Ad0 Ad1 Ad2 Bd0 Bd1 Bd2
  obtain ⟨m1, hm⟩ : ∃ m, w1.heap.size = m := ⟨_, rfl⟩
  have KN := Blk.new w1 #[.int .i64 0, .int .i64 0, .int .i64 0] 53
  rw [hm] at KN
  replace KA := Lib.hid (KA.out.alloc (.cells #[.int .i64 0, .int .i64 0, .int .i64 0] 53))
  replace KB := Lib.hid (KB.out.alloc (.cells #[.int .i64 0, .int .i64 0, .int .i64 0] 53))
  replace LL := Lib.hid (LL.out.below ((Below.refl _ _).alloc (Nat.le_refl _) (.cells #[.int .i64 0, .int .i64 0, .int .i64 0] 53)))
  replace KL := Lib.hid (KL.out.alloc (by have := KL.out.size; have := HN.out; omega) (.cells #[.int .i64 0, .int .i64 0, .int .i64 0] 53))
  go_upto_region 3 with fail
  obtain ⟨W1, hW⟩ : ∃ W, w1.alloc (.cells #[.int .i64 0, .int .i64 0, .int .i64 0] 53) = W := ⟨_, rfl⟩
  rw [hW] at KN KA KB KL LL ⊢
  try rw [hm]
  have KC := Lib.hid KN
  clear KN hW hm
  have Ad0 := KA.out.cell (i := 0) rfl
  have Ad1 := KA.out.cell (i := 1) rfl
  have Ad2 := KA.out.cell (i := 2) rfl
  have Bd0 := KB.out.cell (i := 0) rfl
  have Bd1 := KB.out.cell (i := 1) rfl
  have Bd2 := KB.out.cell (i := 2) rfl
  go_wp2_with fail
  refine (H2.out _).mono ?_
  rintro e w2 ⟨rfl, hb⟩
  replace KA := Lib.hid (KA.out.below hb KA.out.lt)
  replace KB := Lib.hid (KB.out.below hb KB.out.lt)
  replace KC := Lib.hid (KC.out.below hb KC.out.lt)
  replace KL := Lib.hid (KL.out.trans (hb.mono (by have := KL.out.size; have := HN.out; omega)))
  replace LL := Lib.hid (LL.out.below hb)
  clear hb
  clear Ad0 Ad1 Ad2 Bd0 Bd1 Bd2
  obtain ⟨m2, hm⟩ : ∃ m, w2.heap.size = m := ⟨_, rfl⟩
  have KN := Blk.new w2 #[.int .i64 5, .int .i64 6, .int .i64 9] 53
  rw [hm] at KN
  replace KA := Lib.hid (KA.out.alloc (.cells #[.int .i64 5, .int .i64 6, .int .i64 9] 53))
  replace KB := Lib.hid (KB.out.alloc (.cells #[.int .i64 5, .int .i64 6, .int .i64 9] 53))
  replace KC := Lib.hid (KC.out.alloc (.cells #[.int .i64 5, .int .i64 6, .int .i64 9] 53))
  replace LL := Lib.hid (LL.out.below ((Below.refl _ _).alloc (Nat.le_refl _) (.cells #[.int .i64 5, .int .i64 6, .int .i64 9] 53)))
  replace KL := Lib.hid (KL.out.alloc (by have := KL.out.size; have := HN.out; omega) (.cells #[.int .i64 5, .int .i64 6, .int .i64 9] 53))
  go_upto_region 4 with fail
  obtain ⟨W2, hW⟩ : ∃ W, w2.alloc (.cells #[.int .i64 5, .int .i64 6, .int .i64 9] 53) = W := ⟨_, rfl⟩
  rw [hW] at KN KA KB KC KL LL ⊢
  try rw [hm]
  have KD := Lib.hid KN
  clear KN hW hm
  go_wp2_with fail
  refine (H3.out _ LL.out).mono ?_
  rintro e w3 ⟨rfl, hb⟩
  replace KA := Lib.hid (KA.out.below hb KA.out.lt)
  replace KB := Lib.hid (KB.out.below hb KB.out.lt)
  replace KC := Lib.hid (KC.out.below hb KC.out.lt)
  replace KD := Lib.hid (KD.out.below hb KD.out.lt)
  replace KL := Lib.hid (KL.out.trans (hb.mono (by have := KL.out.size; have := HN.out; omega)))
  replace LL := Lib.hid (LL.out.below hb)
  clear hb
  obtain ⟨m3, hm⟩ : ∃ m, w3.heap.size = m := ⟨_, rfl⟩
  have KN := Blk.new w3 #[.int .i64 1, .int .i64 2, .int .i64 5] 53
  rw [hm] at KN
  replace KA := Lib.hid (KA.out.alloc (.cells #[.int .i64 1, .int .i64 2, .int .i64 5] 53))
  replace KB := Lib.hid (KB.out.alloc (.cells #[.int .i64 1, .int .i64 2, .int .i64 5] 53))
  replace KC := Lib.hid (KC.out.alloc (.cells #[.int .i64 1, .int .i64 2, .int .i64 5] 53))
  replace KD := Lib.hid (KD.out.alloc (.cells #[.int .i64 1, .int .i64 2, .int .i64 5] 53))
  replace LL := Lib.hid (LL.out.below ((Below.refl _ _).alloc (Nat.le_refl _) (.cells #[.int .i64 1, .int .i64 2, .int .i64 5] 53)))
  replace KL := Lib.hid (KL.out.alloc (by have := KL.out.size; have := HN.out; omega) (.cells #[.int .i64 1, .int .i64 2, .int .i64 5] 53))
  go_upto_region 5 with fail
  obtain ⟨W3, hW⟩ : ∃ W, w3.alloc (.cells #[.int .i64 1, .int .i64 2, .int .i64 5] 53) = W := ⟨_, rfl⟩
  rw [hW] at KN KA KB KC KD KL LL ⊢
  try rw [hm]
  have KE := Lib.hid KN
  clear KN hW hm
  have Dd0 := KD.out.cell (i := 0) rfl
  have Dd1 := KD.out.cell (i := 1) rfl
  have Dd2 := KD.out.cell (i := 2) rfl
  have Ed0 := KE.out.cell (i := 0) rfl
  have Ed1 := KE.out.cell (i := 1) rfl
  have Ed2 := KE.out.cell (i := 2) rfl
  have Bd0 := KB.out.cell (i := 0) rfl
  have Bd1 := KB.out.cell (i := 1) rfl
  have Bd2 := KB.out.cell (i := 2) rfl
  go_wp2_with fail
  refine (H4.out _ LL.out).mono ?_
  rintro e w4 ⟨rfl, hb⟩
  replace KA := Lib.hid (KA.out.below hb KA.out.lt)
  replace KB := Lib.hid (KB.out.below hb KB.out.lt)
  replace KC := Lib.hid (KC.out.below hb KC.out.lt)
  replace KD := Lib.hid (KD.out.below hb KD.out.lt)
  replace KE := Lib.hid (KE.out.below hb KE.out.lt)
  replace KL := Lib.hid (KL.out.trans (hb.mono (by have := KL.out.size; have := HN.out; omega)))
  replace LL := Lib.hid (LL.out.below hb)
  clear hb
  clear Dd0 Dd1 Dd2 Ed0 Ed1 Ed2 Bd0 Bd1 Bd2
  have Ad0 := KA.out.cell (i := 0) rfl
  have Ad1 := KA.out.cell (i := 1) rfl
  have Ad2 := KA.out.cell (i := 2) rfl
  have Bd0 := KB.out.cell (i := 0) rfl
  have Bd1 := KB.out.cell (i := 1) rfl
  have Bd2 := KB.out.cell (i := 2) rfl
  go_wp2_with fail
  refine (H5.out _).mono ?_
  rintro e w5 ⟨rfl, hb⟩
  replace KA := Lib.hid (KA.out.below hb KA.out.lt)
  replace KB := Lib.hid (KB.out.below hb KB.out.lt)
  replace KC := Lib.hid (KC.out.below hb KC.out.lt)
  replace KD := Lib.hid (KD.out.below hb KD.out.lt)
  replace KE := Lib.hid (KE.out.below hb KE.out.lt)
  replace KL := Lib.hid (KL.out.trans (hb.mono (by have := KL.out.size; have := HN.out; omega)))
  replace LL := Lib.hid (LL.out.below hb)
  clear hb
  clear Ad0 Ad1 Ad2 Bd0 Bd1 Bd2
  have Ad0 := KA.out.cell (i := 0) rfl
  have Ad1 := KA.out.cell (i := 1) rfl
  have Ad2 := KA.out.cell (i := 2) rfl
  have Bd0 := KB.out.cell (i := 0) rfl
  have Bd1 := KB.out.cell (i := 1) rfl
  have Bd2 := KB.out.cell (i := 2) rfl
  go_wp2_with fail
  refine (H6.out _).mono ?_
  rintro e w6 ⟨rfl, hb⟩
  replace KA := Lib.hid (KA.out.below hb KA.out.lt)
  replace KB := Lib.hid (KB.out.below hb KB.out.lt)
  replace KC := Lib.hid (KC.out.below hb KC.out.lt)
  replace KD := Lib.hid (KD.out.below hb KD.out.lt)
  replace KE := Lib.hid (KE.out.below hb KE.out.lt)
  replace KL := Lib.hid (KL.out.trans (hb.mono (by have := KL.out.size; have := HN.out; omega)))
  replace LL := Lib.hid (LL.out.below hb)
  clear hb
  clear Ad0 Ad1 Ad2 Bd0 Bd1 Bd2
  have Ad0 := KA.out.cell (i := 0) rfl
  have Ad1 := KA.out.cell (i := 1) rfl
  have Ad2 := KA.out.cell (i := 2) rfl
  have Bd0 := KB.out.cell (i := 0) rfl
  have Bd1 := KB.out.cell (i := 1) rfl
  have Bd2 := KB.out.cell (i := 2) rfl
  go_wp2_with fail
  refine (H7.out _).mono ?_
  rintro e w7 ⟨rfl, hb⟩
  replace KA := Lib.hid (KA.out.below hb KA.out.lt)
  replace KB := Lib.hid (KB.out.below hb KB.out.lt)
  replace KC := Lib.hid (KC.out.below hb KC.out.lt)
  replace KD := Lib.hid (KD.out.below hb KD.out.lt)
  replace KE := Lib.hid (KE.out.below hb KE.out.lt)
  replace KL := Lib.hid (KL.out.trans (hb.mono (by have := KL.out.size; have := HN.out; omega)))
  replace LL := Lib.hid (LL.out.below hb)
  clear hb
  clear Ad0 Ad1 Ad2 Bd0 Bd1 Bd2
  have Ad0 := KA.out.cell (i := 0) rfl
  have Ad1 := KA.out.cell (i := 1) rfl
  have Ad2 := KA.out.cell (i := 2) rfl
  go_wp2_with fail
  refine (H8.out _).mono ?_
  rintro e w8 ⟨rfl, hb⟩
  replace KA := Lib.hid (KA.out.below hb KA.out.lt)
  replace KB := Lib.hid (KB.out.below hb KB.out.lt)
  replace KC := Lib.hid (KC.out.below hb KC.out.lt)
  replace KD := Lib.hid (KD.out.below hb KD.out.lt)
  replace KE := Lib.hid (KE.out.below hb KE.out.lt)
  replace KL := Lib.hid (KL.out.trans (hb.mono (by have := KL.out.size; have := HN.out; omega)))
  replace LL := Lib.hid (LL.out.below hb)
  clear hb
  clear Ad0 Ad1 Ad2
  go_wp2_with fail
  go_ret
  exact ⟨rfl, KL.out⟩
end Go.Proofs.YtogjckengmkfiaaDoor
