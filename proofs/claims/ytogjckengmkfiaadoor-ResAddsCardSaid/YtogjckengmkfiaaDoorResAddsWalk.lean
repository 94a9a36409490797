/-
  The walk of the statement ResAdds.
-/
import Derived.Test.YtogjckengmkfiaaDoorAwake08
namespace Go.Proofs.YtogjckengmkfiaaDoor
open Go.RowKit
set_option linter.unusedVariables false
set_option linter.unusedSimpArgs false

set_option maxRecDepth 100000 in
set_option maxHeartbeats 6400000 in
theorem walk_ra (a0 a1 a2 b0 b1 b2 : Int) (w : World) (hL : Laid w) : Calls Tryd.prog 9 #[.agg #[.int .i64 a0, .int .i64 a1, .int .i64 a2], .agg #[.int .i64 b0, .int .i64 b1, .int .i64 b2]] w fun e w' => e = .returned (.bool true) ∧ Below w.heap.size w w' := by
  have AW := Lib.hid awake08
  have h1 := res_add [a0, a1, a2] [b0, b1, b2] rfl rfl
  have h2 := ref08_add [a0, a1, a2] [b0, b1, b2] rfl rfl
  have hl := bothR_length addW [a0, a1, a2] [b0, b1, b2] rfl rfl
  generalize bothR addW [a0, a1, a2] [b0, b1, b2] = R at h1 h2 hl
  obtain ⟨R1, p⟩ := R
  obtain ⟨c0, c1, c2, rfl⟩ := three_of (show R1.length = 3 from hl)
  have Hadd := Lib.hid (fun (w : World) => show Calls Tryd.prog 43 #[.agg #[.int .i64 a0, .int .i64 a1, .int .i64 a2], .agg #[.int .i64 b0, .int .i64 b1, .int .i64 b2]] w fun e w' => e = .returned (.tuple #[.agg #[.int .i64 c0, .int .i64 c1, .int .i64 c2], .bool p]) ∧ Below w.heap.size w w' from h1 w)
  have Kadd := Lib.hid (fun (w : World) => show Calls Tryd.prog 44 #[.agg #[.int .i64 a0, .int .i64 a1, .int .i64 a2], .agg #[.int .i64 b0, .int .i64 b1, .int .i64 b2]] w fun e w' => e = .returned (.tuple #[.agg #[.int .i64 c0, .int .i64 c1, .int .i64 c2], .bool p]) ∧ Below w.heap.size w w' from h2 w)
  have qadd : ∀ w, (binOp .eql 53 (.agg #[.int .i64 c0, .int .i64 c1, .int .i64 c2]) (.agg #[.int .i64 c0, .int .i64 c1, .int .i64 c2])).run Tryd.prog w = .ok (.bool true) w := fun w => eql_same [c0, c1, c2] rfl w
  have tadd : (p == p) = true := by simp
  clear h1 h2 hl
  have h1 := res_sub [a0, a1, a2] [b0, b1, b2] rfl rfl
  have h2 := ref08_sub [a0, a1, a2] [b0, b1, b2] rfl rfl
  rw [subR_both [a0, a1, a2] [b0, b1, b2] rfl rfl] at h2
  have hl := bothR_length subW [a0, a1, a2] [b0, b1, b2] rfl rfl
  generalize bothR subW [a0, a1, a2] [b0, b1, b2] = R at h1 h2 hl
  obtain ⟨R1, r⟩ := R
  obtain ⟨x0, x1, x2, rfl⟩ := three_of (show R1.length = 3 from hl)
  have Hsub := Lib.hid (fun (w : World) => show Calls Tryd.prog 45 #[.agg #[.int .i64 a0, .int .i64 a1, .int .i64 a2], .agg #[.int .i64 b0, .int .i64 b1, .int .i64 b2]] w fun e w' => e = .returned (.tuple #[.agg #[.int .i64 x0, .int .i64 x1, .int .i64 x2], .bool r]) ∧ Below w.heap.size w w' from h1 w)
  have Ksub := Lib.hid (fun (w : World) => show Calls Tryd.prog 46 #[.agg #[.int .i64 a0, .int .i64 a1, .int .i64 a2], .agg #[.int .i64 b0, .int .i64 b1, .int .i64 b2]] w fun e w' => e = .returned (.tuple #[.agg #[.int .i64 x0, .int .i64 x1, .int .i64 x2], .bool r]) ∧ Below w.heap.size w w' from h2 w)
  have qsub : ∀ w, (binOp .eql 53 (.agg #[.int .i64 x0, .int .i64 x1, .int .i64 x2]) (.agg #[.int .i64 x0, .int .i64 x1, .int .i64 x2])).run Tryd.prog w = .ok (.bool true) w := fun w => eql_same [x0, x1, x2] rfl w
  have tsub : (r == r) = true := by simp
  clear h1 h2 hl
  have h1 := res_right [a0, a1, a2] rfl
  have h2 := ref08_right [a0, a1, a2] rfl
  generalize resB [a0, a1, a2] = g1 at h1 h2
  have Hright := Lib.hid (fun (w : World) => show Calls Tryd.prog 47 #[.agg #[.int .i64 a0, .int .i64 a1, .int .i64 a2]] w fun e w' => e = .returned (.bool g1) ∧ Below w.heap.size w w' from h1 w)
  have Kright := Lib.hid (fun (w : World) => show Calls Tryd.prog 48 #[.agg #[.int .i64 a0, .int .i64 a1, .int .i64 a2]] w fun e w' => e = .returned (.bool g1) ∧ Below w.heap.size w w' from h2 w)
  have tright : (g1 == g1) = true := by simp
  clear h1 h2
  have h1 := res_fits [a0, a1, a2] [b0, b1, b2] rfl rfl
  have h2 := ref08_fits [a0, a1, a2] [b0, b1, b2] rfl rfl
  generalize fitsB [a0, a1, a2] [b0, b1, b2] = g2 at h1 h2
  have Hfits := Lib.hid (fun (w : World) => show Calls Tryd.prog 49 #[.agg #[.int .i64 a0, .int .i64 a1, .int .i64 a2], .agg #[.int .i64 b0, .int .i64 b1, .int .i64 b2]] w fun e w' => e = .returned (.bool g2) ∧ Below w.heap.size w w' from h1 w)
  have Kfits := Lib.hid (fun (w : World) => show Calls Tryd.prog 50 #[.agg #[.int .i64 a0, .int .i64 a1, .int .i64 a2], .agg #[.int .i64 b0, .int .i64 b1, .int .i64 b2]] w fun e w' => e = .returned (.bool g2) ∧ Below w.heap.size w w' from h2 w)
  have tfits : (g2 == g2) = true := by simp
  clear h1 h2
  have h1 := res_less [a0, a1, a2] [b0, b1, b2] rfl rfl
  have h2 := ref08_less [a0, a1, a2] [b0, b1, b2] rfl rfl
  generalize lessB [a0, a1, a2] [b0, b1, b2] = g3 at h1 h2
  have Hless := Lib.hid (fun (w : World) => show Calls Tryd.prog 51 #[.agg #[.int .i64 a0, .int .i64 a1, .int .i64 a2], .agg #[.int .i64 b0, .int .i64 b1, .int .i64 b2]] w fun e w' => e = .returned (.bool g3) ∧ Below w.heap.size w w' from h1 w)
  have Kless := Lib.hid (fun (w : World) => show Calls Tryd.prog 52 #[.agg #[.int .i64 a0, .int .i64 a1, .int .i64 a2], .agg #[.int .i64 b0, .int .i64 b1, .int .i64 b2]] w fun e w' => e = .returned (.bool g3) ∧ Below w.heap.size w w' from h2 w)
  have tless : (g3 == g3) = true := by simp
  clear h1 h2
  have h1 := res_most [a0, a1, a2] [b0, b1, b2] rfl rfl
  have h2 := ref08_most [a0, a1, a2] [b0, b1, b2] rfl rfl
  have hl := mostL_length [a0, a1, a2] [b0, b1, b2] rfl rfl
  generalize mostL [a0, a1, a2] [b0, b1, b2] = R1 at h1 h2 hl
  obtain ⟨z0, z1, z2, rfl⟩ := three_of hl
  have Hmost := Lib.hid (fun (w : World) => show Calls Tryd.prog 53 #[.agg #[.int .i64 a0, .int .i64 a1, .int .i64 a2], .agg #[.int .i64 b0, .int .i64 b1, .int .i64 b2]] w fun e w' => e = .returned (.agg #[.int .i64 z0, .int .i64 z1, .int .i64 z2]) ∧ Below w.heap.size w w' from h1 w)
  have Kmost := Lib.hid (fun (w : World) => show Calls Tryd.prog 54 #[.agg #[.int .i64 a0, .int .i64 a1, .int .i64 a2], .agg #[.int .i64 b0, .int .i64 b1, .int .i64 b2]] w fun e w' => e = .returned (.agg #[.int .i64 z0, .int .i64 z1, .int .i64 z2]) ∧ Below w.heap.size w w' from h2 w)
  have qmost : ∀ w, (binOp .eql 53 (.agg #[.int .i64 z0, .int .i64 z1, .int .i64 z2]) (.agg #[.int .i64 z0, .int .i64 z1, .int .i64 z2])).run Tryd.prog w = .ok (.bool true) w := fun w => eql_same [z0, z1, z2] rfl w
  clear h1 h2 hl
  obtain ⟨n, hn⟩ : ∃ n, w.heap.size = n := ⟨_, rfl⟩
  obtain ⟨W, hW⟩ : ∃ W, (w.alloc (.cells #[.int .i64 a0, .int .i64 a1, .int .i64 a2] 53)).alloc (.cells #[.int .i64 b0, .int .i64 b1, .int .i64 b2] 53) = W := ⟨_, rfl⟩
  obtain ⟨kA, kB, kl, kz⟩ := two_boxes w n hn _ _ _ W hW
  have KA := Lib.hid kA
  have KB := Lib.hid kB
  have KL := Lib.hid kl
  have LL := Lib.hid (hL.below (hn ▸ kl))
  have HW := Lib.hid hW
  have HN := Lib.hid hn
  rw [hn]
  clear hW kl kz kA kB hL
  go_enter Tryd.func9, Tryd.ntmps9
  go_upto_region 1 with fail
  rw [HW.out]
  try rw [HN.out]
  clear HW
  have Ad0 := KA.out.cell (i := 0) rfl
  have Ad1 := KA.out.cell (i := 1) rfl
  have Ad2 := KA.out.cell (i := 2) rfl
  have Bd0 := KB.out.cell (i := 0) rfl
  have Bd1 := KB.out.cell (i := 1) rfl
  have Bd2 := KB.out.cell (i := 2) rfl
  go_wp2_with fail
  refine (Hadd.out _).mono ?_
  rintro e w1 ⟨rfl, hb⟩
  replace KA := Lib.hid (KA.out.below hb KA.out.lt)
  replace KB := Lib.hid (KB.out.below hb KB.out.lt)
  replace KL := Lib.hid (KL.out.trans (hb.mono (by have := KL.out.size; have := HN.out; omega)))
  replace LL := Lib.hid (LL.out.below hb)
  clear hb
  clear Ad0 Ad1 Ad2 Bd0 Bd1 Bd2
  obtain ⟨m1, hm⟩ : ∃ m, w1.heap.size = m := ⟨_, rfl⟩
  have KN := Blk.new w1 #[.int .i64 c0, .int .i64 c1, .int .i64 c2] 53
  rw [hm] at KN
  replace KA := Lib.hid (KA.out.alloc (.cells #[.int .i64 c0, .int .i64 c1, .int .i64 c2] 53))
  replace KB := Lib.hid (KB.out.alloc (.cells #[.int .i64 c0, .int .i64 c1, .int .i64 c2] 53))
  replace LL := Lib.hid (LL.out.below ((Below.refl _ _).alloc (Nat.le_refl _) (.cells #[.int .i64 c0, .int .i64 c1, .int .i64 c2] 53)))
  replace KL := Lib.hid (KL.out.alloc (by have := KL.out.size; have := HN.out; omega) (.cells #[.int .i64 c0, .int .i64 c1, .int .i64 c2] 53))
  go_upto_region 2 with fail
  obtain ⟨W1, hW⟩ : ∃ W, w1.alloc (.cells #[.int .i64 c0, .int .i64 c1, .int .i64 c2] 53) = W := ⟨_, rfl⟩
  rw [hW] at KN KA KB KL LL ⊢
  try rw [hm]
  have KC := Lib.hid KN
  clear KN hW hm
  have Ad0 := KA.out.cell (i := 0) rfl
  have Ad1 := KA.out.cell (i := 1) rfl
  have Ad2 := KA.out.cell (i := 2) rfl
  have Bd0 := KB.out.cell (i := 0) rfl
  have Bd1 := KB.out.cell (i := 1) rfl
  have Bd2 := KB.out.cell (i := 2) rfl
  go_wp2_with fail
  refine (Kadd.out _).mono ?_
  rintro e w2 ⟨rfl, hb⟩
  replace KA := Lib.hid (KA.out.below hb KA.out.lt)
  replace KB := Lib.hid (KB.out.below hb KB.out.lt)
  replace KC := Lib.hid (KC.out.below hb KC.out.lt)
  replace KL := Lib.hid (KL.out.trans (hb.mono (by have := KL.out.size; have := HN.out; omega)))
  replace LL := Lib.hid (LL.out.below hb)
  clear hb
  clear Ad0 Ad1 Ad2 Bd0 Bd1 Bd2
  obtain ⟨m2, hm⟩ : ∃ m, w2.heap.size = m := ⟨_, rfl⟩
  have KN := Blk.new w2 #[.int .i64 c0, .int .i64 c1, .int .i64 c2] 53
  rw [hm] at KN
  replace KA := Lib.hid (KA.out.alloc (.cells #[.int .i64 c0, .int .i64 c1, .int .i64 c2] 53))
  replace KB := Lib.hid (KB.out.alloc (.cells #[.int .i64 c0, .int .i64 c1, .int .i64 c2] 53))
  replace KC := Lib.hid (KC.out.alloc (.cells #[.int .i64 c0, .int .i64 c1, .int .i64 c2] 53))
  replace LL := Lib.hid (LL.out.below ((Below.refl _ _).alloc (Nat.le_refl _) (.cells #[.int .i64 c0, .int .i64 c1, .int .i64 c2] 53)))
  replace KL := Lib.hid (KL.out.alloc (by have := KL.out.size; have := HN.out; omega) (.cells #[.int .i64 c0, .int .i64 c1, .int .i64 c2] 53))
  go_upto_region 3 with fail
  obtain ⟨W2, hW⟩ : ∃ W, w2.alloc (.cells #[.int .i64 c0, .int .i64 c1, .int .i64 c2] 53) = W := ⟨_, rfl⟩
  rw [hW] at KN KA KB KC KL LL ⊢
  try rw [hm]
  have KD := Lib.hid KN
  clear KN hW hm
  have Ad0 := KA.out.cell (i := 0) rfl
  have Ad1 := KA.out.cell (i := 1) rfl
  have Ad2 := KA.out.cell (i := 2) rfl
  have Bd0 := KB.out.cell (i := 0) rfl
  have Bd1 := KB.out.cell (i := 1) rfl
  have Bd2 := KB.out.cell (i := 2) rfl
  go_wp2_with fail
  refine (Hsub.out _).mono ?_
  rintro e w3 ⟨rfl, hb⟩
  replace KA := Lib.hid (KA.out.below hb KA.out.lt)
  replace KB := Lib.hid (KB.out.below hb KB.out.lt)
  replace KC := Lib.hid (KC.out.below hb KC.out.lt)
  replace KD := Lib.hid (KD.out.below hb KD.out.lt)
  replace KL := Lib.hid (KL.out.trans (hb.mono (by have := KL.out.size; have := HN.out; omega)))
  replace LL := Lib.hid (LL.out.below hb)
  clear hb
  clear Ad0 Ad1 Ad2 Bd0 Bd1 Bd2
  obtain ⟨m3, hm⟩ : ∃ m, w3.heap.size = m := ⟨_, rfl⟩
  have KN := Blk.new w3 #[.int .i64 x0, .int .i64 x1, .int .i64 x2] 53
  rw [hm] at KN
  replace KA := Lib.hid (KA.out.alloc (.cells #[.int .i64 x0, .int .i64 x1, .int .i64 x2] 53))
  replace KB := Lib.hid (KB.out.alloc (.cells #[.int .i64 x0, .int .i64 x1, .int .i64 x2] 53))
  replace KC := Lib.hid (KC.out.alloc (.cells #[.int .i64 x0, .int .i64 x1, .int .i64 x2] 53))
  replace KD := Lib.hid (KD.out.alloc (.cells #[.int .i64 x0, .int .i64 x1, .int .i64 x2] 53))
  replace LL := Lib.hid (LL.out.below ((Below.refl _ _).alloc (Nat.le_refl _) (.cells #[.int .i64 x0, .int .i64 x1, .int .i64 x2] 53)))
  replace KL := Lib.hid (KL.out.alloc (by have := KL.out.size; have := HN.out; omega) (.cells #[.int .i64 x0, .int .i64 x1, .int .i64 x2] 53))
  go_upto_region 4 with fail
  obtain ⟨W3, hW⟩ : ∃ W, w3.alloc (.cells #[.int .i64 x0, .int .i64 x1, .int .i64 x2] 53) = W := ⟨_, rfl⟩
  rw [hW] at KN KA KB KC KD KL LL ⊢
  try rw [hm]
  have KX := Lib.hid KN
  clear KN hW hm
  have Ad0 := KA.out.cell (i := 0) rfl
  have Ad1 := KA.out.cell (i := 1) rfl
  have Ad2 := KA.out.cell (i := 2) rfl
  have Bd0 := KB.out.cell (i := 0) rfl
  have Bd1 := KB.out.cell (i := 1) rfl
  have Bd2 := KB.out.cell (i := 2) rfl
  go_wp2_with fail
  refine (Ksub.out _).mono ?_
  rintro e w4 ⟨rfl, hb⟩
  replace KA := Lib.hid (KA.out.below hb KA.out.lt)
  replace KB := Lib.hid (KB.out.below hb KB.out.lt)
  replace KC := Lib.hid (KC.out.below hb KC.out.lt)
  replace KD := Lib.hid (KD.out.below hb KD.out.lt)
  replace KX := Lib.hid (KX.out.below hb KX.out.lt)
  replace KL := Lib.hid (KL.out.trans (hb.mono (by have := KL.out.size; have := HN.out; omega)))
  replace LL := Lib.hid (LL.out.below hb)
  clear hb
  clear Ad0 Ad1 Ad2 Bd0 Bd1 Bd2
  obtain ⟨m4, hm⟩ : ∃ m, w4.heap.size = m := ⟨_, rfl⟩
  have KN := Blk.new w4 #[.int .i64 x0, .int .i64 x1, .int .i64 x2] 53
  rw [hm] at KN
  replace KA := Lib.hid (KA.out.alloc (.cells #[.int .i64 x0, .int .i64 x1, .int .i64 x2] 53))
  replace KB := Lib.hid (KB.out.alloc (.cells #[.int .i64 x0, .int .i64 x1, .int .i64 x2] 53))
  replace KC := Lib.hid (KC.out.alloc (.cells #[.int .i64 x0, .int .i64 x1, .int .i64 x2] 53))
  replace KD := Lib.hid (KD.out.alloc (.cells #[.int .i64 x0, .int .i64 x1, .int .i64 x2] 53))
  replace KX := Lib.hid (KX.out.alloc (.cells #[.int .i64 x0, .int .i64 x1, .int .i64 x2] 53))
  replace LL := Lib.hid (LL.out.below ((Below.refl _ _).alloc (Nat.le_refl _) (.cells #[.int .i64 x0, .int .i64 x1, .int .i64 x2] 53)))
  replace KL := Lib.hid (KL.out.alloc (by have := KL.out.size; have := HN.out; omega) (.cells #[.int .i64 x0, .int .i64 x1, .int .i64 x2] 53))
  go_upto_region 5 with fail
  obtain ⟨W4, hW⟩ : ∃ W, w4.alloc (.cells #[.int .i64 x0, .int .i64 x1, .int .i64 x2] 53) = W := ⟨_, rfl⟩
  rw [hW] at KN KA KB KC KD KX KL LL ⊢
  try rw [hm]
  have KY := Lib.hid KN
  clear KN hW hm
  have Ad0 := KA.out.cell (i := 0) rfl
  have Ad1 := KA.out.cell (i := 1) rfl
  have Ad2 := KA.out.cell (i := 2) rfl
  have Bd0 := KB.out.cell (i := 0) rfl
  have Bd1 := KB.out.cell (i := 1) rfl
  have Bd2 := KB.out.cell (i := 2) rfl
  have Cd0 := KC.out.cell (i := 0) rfl
  have Cd1 := KC.out.cell (i := 1) rfl
  have Cd2 := KC.out.cell (i := 2) rfl
  have Dd0 := KD.out.cell (i := 0) rfl
  have Dd1 := KD.out.cell (i := 1) rfl
  have Dd2 := KD.out.cell (i := 2) rfl
  have Xd0 := KX.out.cell (i := 0) rfl
  have Xd1 := KX.out.cell (i := 1) rfl
  have Xd2 := KX.out.cell (i := 2) rfl
  have Yd0 := KY.out.cell (i := 0) rfl
  have Yd1 := KY.out.cell (i := 1) rfl
  have Yd2 := KY.out.cell (i := 2) rfl
  have Al := KA.out.lt
  have Bl := KB.out.lt
  have Cl := KC.out.lt
  have Dl := KD.out.lt
  have Xl := KX.out.lt
  have Yl := KY.out.lt
  have hw := Below.refl _ _ |> fun (h : Below W4.heap.size W4 W4) => h
  go_region_held3 (fun w' => w'.cell? ⟨n, 0, none⟩ = some (.int .i64 a0) ∧ w'.cell? ⟨n, 1, none⟩ = some (.int .i64 a1) ∧ w'.cell? ⟨n, 2, none⟩ = some (.int .i64 a2) ∧ w'.cell? ⟨(n + 1), 0, none⟩ = some (.int .i64 b0) ∧ w'.cell? ⟨(n + 1), 1, none⟩ = some (.int .i64 b1) ∧ w'.cell? ⟨(n + 1), 2, none⟩ = some (.int .i64 b2) ∧ w'.cell? ⟨m1, 0, none⟩ = some (.int .i64 c0) ∧ w'.cell? ⟨m1, 1, none⟩ = some (.int .i64 c1) ∧ w'.cell? ⟨m1, 2, none⟩ = some (.int .i64 c2) ∧ w'.cell? ⟨m2, 0, none⟩ = some (.int .i64 c0) ∧ w'.cell? ⟨m2, 1, none⟩ = some (.int .i64 c1) ∧ w'.cell? ⟨m2, 2, none⟩ = some (.int .i64 c2) ∧ w'.cell? ⟨m3, 0, none⟩ = some (.int .i64 x0) ∧ w'.cell? ⟨m3, 1, none⟩ = some (.int .i64 x1) ∧ w'.cell? ⟨m3, 2, none⟩ = some (.int .i64 x2) ∧ w'.cell? ⟨m4, 0, none⟩ = some (.int .i64 x0) ∧ w'.cell? ⟨m4, 1, none⟩ = some (.int .i64 x1) ∧ w'.cell? ⟨m4, 2, none⟩ = some (.int .i64 x2))
    (first | (go_keep; done) | exact ⟨keepB hw Ad0 Al, keepB hw Ad1 Al, keepB hw Ad2 Al, keepB hw Bd0 Bl, keepB hw Bd1 Bl, keepB hw Bd2 Bl, keepB hw Cd0 Cl, keepB hw Cd1 Cl, keepB hw Cd2 Cl, keepB hw Dd0 Dl, keepB hw Dd1 Dl, keepB hw Dd2 Dl, keepB hw Xd0 Xl, keepB hw Xd1 Xl, keepB hw Xd2 Xl, keepB hw Yd0 Yl, keepB hw Yd1 Yl, keepB hw Yd2 Yl⟩)
    (first
      | (go_at_call 47; refine (Hright.out _).mono ?_; rintro e wc ⟨rfl, hbq⟩; replace hw := hw.trans (Below.mono (by exact ⟨hbq.os, hbq.tape, hbq.output, hbq.size, hbq.block⟩) hw.size); clear hbq)
      | (go_at_call 48; refine (Kright.out _).mono ?_; rintro e wc ⟨rfl, hbq⟩; replace hw := hw.trans (Below.mono (by exact ⟨hbq.os, hbq.tape, hbq.output, hbq.size, hbq.block⟩) hw.size); clear hbq)
      | (go_at_call 49; refine (Hfits.out _).mono ?_; rintro e wc ⟨rfl, hbq⟩; replace hw := hw.trans (Below.mono (by exact ⟨hbq.os, hbq.tape, hbq.output, hbq.size, hbq.block⟩) hw.size); clear hbq)
      | (go_at_call 50; refine (Kfits.out _).mono ?_; rintro e wc ⟨rfl, hbq⟩; replace hw := hw.trans (Below.mono (by exact ⟨hbq.os, hbq.tape, hbq.output, hbq.size, hbq.block⟩) hw.size); clear hbq)
      | (go_at_call 51; refine (Hless.out _).mono ?_; rintro e wc ⟨rfl, hbq⟩; replace hw := hw.trans (Below.mono (by exact ⟨hbq.os, hbq.tape, hbq.output, hbq.size, hbq.block⟩) hw.size); clear hbq)
      | (go_at_call 52; refine (Kless.out _).mono ?_; rintro e wc ⟨rfl, hbq⟩; replace hw := hw.trans (Below.mono (by exact ⟨hbq.os, hbq.tape, hbq.output, hbq.size, hbq.block⟩) hw.size); clear hbq)
      | (go_at_call 53; refine (Hmost.out _).mono ?_; rintro e wc ⟨rfl, hbq⟩; replace hw := hw.trans (Below.mono (by exact ⟨hbq.os, hbq.tape, hbq.output, hbq.size, hbq.block⟩) hw.size); clear hbq)
      | (go_at_call 54; refine (Kmost.out _).mono ?_; rintro e wc ⟨rfl, hbq⟩; replace hw := hw.trans (Below.mono (by exact ⟨hbq.os, hbq.tape, hbq.output, hbq.size, hbq.block⟩) hw.size); clear hbq)
      | (go_at_call 55; refine (AW.out _ (LL.out.below (by exact ⟨hw.os, hw.tape, hw.output, hw.size, hw.block⟩))).mono ?_; rintro e wc ⟨rfl, hbq⟩; replace hw := hw.trans (Below.mono (by exact ⟨hbq.os, hbq.tape, hbq.output, hbq.size, hbq.block⟩) hw.size); clear hbq))
  have KL9 := Lib.hid (KL.out.trans (hw.mono (by have := KL.out.size; have := HN.out; omega)))
  go_wp2_with fail
  go_ret
  exact ⟨rfl, KL9.out⟩
theorem walk_ResAdds (a0 a1 a2 b0 b1 b2 : Int) (w : World) (_ : (Lit.int .i64 a0).wf = true) (_ : (Lit.int .i64 a1).wf = true) (_ : (Lit.int .i64 a2).wf = true) (_ : (Lit.int .i64 b0).wf = true) (_ : (Lit.int .i64 b1).wf = true) (_ : (Lit.int .i64 b2).wf = true) (hl : laidMetH Tryd.prog Rows.resAddsRow.laid w) :
    Calls Tryd.prog 9 #[.agg #[.int .i64 a0, .int .i64 a1, .int .i64 a2], .agg #[.int .i64 b0, .int .i64 b1, .int .i64 b2]] w fun e w' => e = .returned (.bool true) ∧ Below w.heap.size w w' :=
  walk_ra a0 a1 a2 b0 b1 b2 w (laid_of7 hl)
end Go.Proofs.YtogjckengmkfiaaDoor
