/-
  The walk of the statement ResBack.
-/
import Derived.Test.YtogjckengmkfiaaDoorAwake08
namespace Go.Proofs.YtogjckengmkfiaaDoor
open Go.RowKit
set_option linter.unusedVariables false
set_option linter.unusedSimpArgs false

theorem below_self {B : Nat} {w W : World} (_ : Below B w W) : Below W.heap.size W W := Below.refl _ _
theorem neq_same (a : List Int) (ha : a.length = 3) (w : World) : (binOp .neq 53 (.agg (cellsI a)) (.agg (cellsI a))).run Tryd.prog w = .ok (.bool false) w := by
  rw [run_neq_struct, eqIn_res a a ha ha 9998 w, decide_eq_true rfl]; rfl
set_option maxRecDepth 100000 in
set_option maxHeartbeats 12800000 in
theorem walk_rb (a0 a1 a2 b0 b1 b2 : Int) (w : World) (hL : Laid w) : Calls Tryd.prog 11 #[.agg #[.int .i64 a0, .int .i64 a1, .int .i64 a2], .agg #[.int .i64 b0, .int .i64 b1, .int .i64 b2]] w fun e w' => e = .returned (.bool true) ∧ Below w.heap.size w w' := by
  have AW := Lib.hid awake08
  have hs1 := add_sub [a0, a1, a2] [b0, b1, b2] rfl rfl
  have h1 := res_add [a0, a1, a2] [b0, b1, b2] rfl rfl
  have hl := bothR_length addW [a0, a1, a2] [b0, b1, b2] rfl rfl
  have h2 := res_sub (bothR addW [a0, a1, a2] [b0, b1, b2]).1 [b0, b1, b2] hl rfl
  have h3 : (bothR addW [a0, a1, a2] [b0, b1, b2]).2 = true → bothR subW (bothR addW [a0, a1, a2] [b0, b1, b2]).1 [b0, b1, b2] = ([a0, a1, a2], true) := hs1
  generalize bothR subW (bothR addW [a0, a1, a2] [b0, b1, b2]).1 [b0, b1, b2] = R2 at h2 h3
  generalize bothR addW [a0, a1, a2] [b0, b1, b2] = R at h1 h2 h3 hl
  obtain ⟨R1, p⟩ := R
  obtain ⟨c0, c1, c2, rfl⟩ := three_of (show R1.length = 3 from hl)
  have HADD := Lib.hid (fun (w : World) => show Calls Tryd.prog 43 #[.agg #[.int .i64 a0, .int .i64 a1, .int .i64 a2], .agg #[.int .i64 b0, .int .i64 b1, .int .i64 b2]] w fun e w' => e = .returned (.tuple #[.agg #[.int .i64 c0, .int .i64 c1, .int .i64 c2], .bool p]) ∧ Below w.heap.size w w' from h1 w)
  have HSUB2 := Lib.hid (fun (hp : p = true) (w : World) => show Calls Tryd.prog 45 #[.agg #[.int .i64 c0, .int .i64 c1, .int .i64 c2], .agg #[.int .i64 b0, .int .i64 b1, .int .i64 b2]] w fun e w' => e = .returned (.tuple #[.agg #[.int .i64 a0, .int .i64 a1, .int .i64 a2], .bool true]) ∧ Below w.heap.size w w' from (h2 w).mono (fun e w' h => ⟨h.1.trans (by rw [h3 hp]; rfl), h.2⟩))
  clear h1 h2 h3 hl hs1
  have hs1 := sub_add [a0, a1, a2] [b0, b1, b2] rfl rfl
  have h1 := res_sub [a0, a1, a2] [b0, b1, b2] rfl rfl
  have hl := bothR_length subW [a0, a1, a2] [b0, b1, b2] rfl rfl
  have h2 := res_add (bothR subW [a0, a1, a2] [b0, b1, b2]).1 [b0, b1, b2] hl rfl
  have hf := fits_can [a0, a1, a2] [b0, b1, b2] rfl rfl
  have h3 : (bothR subW [a0, a1, a2] [b0, b1, b2]).2 = true → bothR addW (bothR subW [a0, a1, a2] [b0, b1, b2]).1 [b0, b1, b2] = ([a0, a1, a2], true) := hs1
  generalize bothR addW (bothR subW [a0, a1, a2] [b0, b1, b2]).1 [b0, b1, b2] = R2 at h2 h3
  generalize bothR subW [a0, a1, a2] [b0, b1, b2] = R at h1 h2 h3 hl hf
  obtain ⟨R1, r⟩ := R
  obtain ⟨x0, x1, x2, rfl⟩ := three_of (show R1.length = 3 from hl)
  have HSUB := Lib.hid (fun (w : World) => show Calls Tryd.prog 45 #[.agg #[.int .i64 a0, .int .i64 a1, .int .i64 a2], .agg #[.int .i64 b0, .int .i64 b1, .int .i64 b2]] w fun e w' => e = .returned (.tuple #[.agg #[.int .i64 x0, .int .i64 x1, .int .i64 x2], .bool r]) ∧ Below w.heap.size w w' from h1 w)
  have HADD2 := Lib.hid (fun (hp : r = true) (w : World) => show Calls Tryd.prog 43 #[.agg #[.int .i64 x0, .int .i64 x1, .int .i64 x2], .agg #[.int .i64 b0, .int .i64 b1, .int .i64 b2]] w fun e w' => e = .returned (.tuple #[.agg #[.int .i64 a0, .int .i64 a1, .int .i64 a2], .bool true]) ∧ Below w.heap.size w w' from (h2 w).mono (fun e w' h => ⟨h.1.trans (by rw [h3 hp]; rfl), h.2⟩))
  have h4 := res_fits [b0, b1, b2] [a0, a1, a2] rfl rfl
  have h5 := res_right [a0, a1, a2] rfl
  have h6 := res_right [b0, b1, b2] rfl
  change resB [a0, a1, a2] = true → resB [b0, b1, b2] = true → fitsB [b0, b1, b2] [a0, a1, a2] = r at hf
  generalize resB [a0, a1, a2] = ga at h5 hf
  generalize resB [b0, b1, b2] = gb at h6 hf
  generalize fitsB [b0, b1, b2] [a0, a1, a2] = f at h4 hf
  have HFIT := Lib.hid (fun (w : World) => show Calls Tryd.prog 49 #[.agg #[.int .i64 b0, .int .i64 b1, .int .i64 b2], .agg #[.int .i64 a0, .int .i64 a1, .int .i64 a2]] w fun e w' => e = .returned (.bool f) ∧ Below w.heap.size w w' from h4 w)
  have HRA := Lib.hid (fun (w : World) => show Calls Tryd.prog 47 #[.agg #[.int .i64 a0, .int .i64 a1, .int .i64 a2]] w fun e w' => e = .returned (.bool ga) ∧ Below w.heap.size w w' from h5 w)
  have HRB := Lib.hid (fun (w : World) => show Calls Tryd.prog 47 #[.agg #[.int .i64 b0, .int .i64 b1, .int .i64 b2]] w fun e w' => e = .returned (.bool gb) ∧ Below w.heap.size w w' from h6 w)
  have h7 := res_less [a0, a1, a2] [a0, a1, a2] rfl rfl
  rw [less_self [a0, a1, a2] rfl] at h7
  have HLS := Lib.hid (fun (w : World) => show Calls Tryd.prog 51 #[.agg #[.int .i64 a0, .int .i64 a1, .int .i64 a2], .agg #[.int .i64 a0, .int .i64 a1, .int .i64 a2]] w fun e w' => e = .returned (.bool false) ∧ Below w.heap.size w w' from h7 w)
  have h8 := res_less [a0, a1, a2] [b0, b1, b2] rfl rfl
  have h9 := res_less [b0, b1, b2] [a0, a1, a2] rfl rfl
  have hq := less_one [a0, a1, a2] [b0, b1, b2] rfl rfl
  have hee := eql_res [a0, a1, a2] [b0, b1, b2] rfl rfl
  generalize lessB [a0, a1, a2] [b0, b1, b2] = l1 at h8 hq
  generalize lessB [b0, b1, b2] [a0, a1, a2] = l2 at h9 hq
  have HL1 := Lib.hid (fun (w : World) => show Calls Tryd.prog 51 #[.agg #[.int .i64 a0, .int .i64 a1, .int .i64 a2], .agg #[.int .i64 b0, .int .i64 b1, .int .i64 b2]] w fun e w' => e = .returned (.bool l1) ∧ Below w.heap.size w w' from h8 w)
  have HL2 := Lib.hid (fun (w : World) => show Calls Tryd.prog 51 #[.agg #[.int .i64 b0, .int .i64 b1, .int .i64 b2], .agg #[.int .i64 a0, .int .i64 a1, .int .i64 a2]] w fun e w' => e = .returned (.bool l2) ∧ Below w.heap.size w w' from h9 w)
  have HF := Lib.hid hf
  have HQ : Hid (∃ d : Bool, (∀ w, (binOp .eql 53 (.agg #[.int .i64 a0, .int .i64 a1, .int .i64 a2]) (.agg #[.int .i64 b0, .int .i64 b1, .int .i64 b2])).run Tryd.prog w = .ok (.bool d) w) ∧ (d = false → (l1 != l2) = true)) := Lib.hid ⟨decide ([a0, a1, a2] = [b0, b1, b2]), hee, fun hd => by rcases hq (of_decide_eq_false hd) with ⟨h, h'⟩ | ⟨h, h'⟩ <;> rw [h, h'] <;> rfl⟩
  have nq := fun w => neq_same [a0, a1, a2] rfl w
  have nqq : ∀ w, (binOp .neq 53 (.agg #[.int .i64 a0, .int .i64 a1, .int .i64 a2]) (.agg #[.int .i64 a0, .int .i64 a1, .int .i64 a2])).run Tryd.prog w = .ok (.bool false) w := nq
  clear h1 h2 h3 h4 h5 h6 h7 h8 h9 hl hs1 hf hq hee nq
  obtain ⟨n, hn⟩ : ∃ n, w.heap.size = n := ⟨_, rfl⟩
  obtain ⟨W, hW⟩ : ∃ W, (w.alloc (.cells #[.int .i64 a0, .int .i64 a1, .int .i64 a2] 53)).alloc (.cells #[.int .i64 b0, .int .i64 b1, .int .i64 b2] 53) = W := ⟨_, rfl⟩
  obtain ⟨kA, kB, kl, kz⟩ := two_boxes w n hn _ _ _ W hW
  have KA := Lib.hid kA
  have KB := Lib.hid kB
  have KL := Lib.hid kl
  have LL := Lib.hid (hL.below (hn ▸ kl))
  have HW := Lib.hid hW
  have HN := Lib.hid hn
  rw [hn]
  clear hW kl kz kA kB hL
  go_enter Tryd.func11, Tryd.ntmps11
  go_upto_region 1 with fail
  rw [HW.out]
  try rw [HN.out]
  clear HW
  have Ad0 := KA.out.cell (i := 0) rfl
  have Ad1 := KA.out.cell (i := 1) rfl
  have Ad2 := KA.out.cell (i := 2) rfl
  have Bd0 := KB.out.cell (i := 0) rfl
  have Bd1 := KB.out.cell (i := 1) rfl
  have Bd2 := KB.out.cell (i := 2) rfl
  go_wp2_with fail
  refine (HADD.out _).mono ?_
  rintro e w1 ⟨rfl, hb⟩
  replace KA := Lib.hid (KA.out.below hb KA.out.lt)
  replace KB := Lib.hid (KB.out.below hb KB.out.lt)
  replace KL := Lib.hid (KL.out.trans (hb.mono (by have := KL.out.size; have := HN.out; omega)))
  replace LL := Lib.hid (LL.out.below hb)
  clear hb
  clear Ad0 Ad1 Ad2 Bd0 Bd1 Bd2
  obtain ⟨m1, hm⟩ : ∃ m, w1.heap.size = m := ⟨_, rfl⟩
  have KN := Blk.new w1 #[.int .i64 c0, .int .i64 c1, .int .i64 c2] 53
  rw [hm] at KN
  replace KA := Lib.hid (KA.out.alloc (.cells #[.int .i64 c0, .int .i64 c1, .int .i64 c2] 53))
  replace KB := Lib.hid (KB.out.alloc (.cells #[.int .i64 c0, .int .i64 c1, .int .i64 c2] 53))
  replace LL := Lib.hid (LL.out.below ((Below.refl _ _).alloc (Nat.le_refl _) (.cells #[.int .i64 c0, .int .i64 c1, .int .i64 c2] 53)))
  replace KL := Lib.hid (KL.out.alloc (by have := KL.out.size; have := HN.out; omega) (.cells #[.int .i64 c0, .int .i64 c1, .int .i64 c2] 53))
  go_upto_region 2 with fail
  obtain ⟨W1, hW⟩ : ∃ W, w1.alloc (.cells #[.int .i64 c0, .int .i64 c1, .int .i64 c2] 53) = W := ⟨_, rfl⟩
  rw [hW] at KN KA KB KL LL ⊢
  try rw [hm]
  have KC := Lib.hid KN
  clear KN hW hm
  go_upto_if 19 with fail
  go_cut [] (fun wx => Hid (Blk wx n #[.int .i64 a0, .int .i64 a1, .int .i64 a2] 53) ∧ Hid (Blk wx (n + 1) #[.int .i64 b0, .int .i64 b1, .int .i64 b2] 53) ∧ Hid (Below n w wx) ∧ Hid (Laid wx))
  case first =>
    cases p with
    | false =>
      go_wp2_with fail
      go_meet
      exact ⟨KA, KB, KL, LL⟩
    | true =>
      have HSUB2X := Lib.hid (HSUB2.out (by first | rfl | trivial))
      have Cd0 := KC.out.cell (i := 0) rfl
      have Cd1 := KC.out.cell (i := 1) rfl
      have Cd2 := KC.out.cell (i := 2) rfl
      have Bd0 := KB.out.cell (i := 0) rfl
      have Bd1 := KB.out.cell (i := 1) rfl
      have Bd2 := KB.out.cell (i := 2) rfl
      go_wp2_with fail
      refine (HSUB2X.out _).mono ?_
      rintro e w2 ⟨rfl, hb⟩
      replace KA := Lib.hid (KA.out.below hb KA.out.lt)
      replace KB := Lib.hid (KB.out.below hb KB.out.lt)
      replace KC := Lib.hid (KC.out.below hb KC.out.lt)
      replace KL := Lib.hid (KL.out.trans (hb.mono (by have := KL.out.size; have := HN.out; omega)))
      replace LL := Lib.hid (LL.out.below hb)
      clear hb
      clear Cd0 Cd1 Cd2 Bd0 Bd1 Bd2
      obtain ⟨m2, hm⟩ : ∃ m, w2.heap.size = m := ⟨_, rfl⟩
      have KN := Blk.new w2 #[.int .i64 a0, .int .i64 a1, .int .i64 a2] 53
      rw [hm] at KN
      replace KA := Lib.hid (KA.out.alloc (.cells #[.int .i64 a0, .int .i64 a1, .int .i64 a2] 53))
      replace KB := Lib.hid (KB.out.alloc (.cells #[.int .i64 a0, .int .i64 a1, .int .i64 a2] 53))
      replace KC := Lib.hid (KC.out.alloc (.cells #[.int .i64 a0, .int .i64 a1, .int .i64 a2] 53))
      replace LL := Lib.hid (LL.out.below ((Below.refl _ _).alloc (Nat.le_refl _) (.cells #[.int .i64 a0, .int .i64 a1, .int .i64 a2] 53)))
      replace KL := Lib.hid (KL.out.alloc (by have := KL.out.size; have := HN.out; omega) (.cells #[.int .i64 a0, .int .i64 a1, .int .i64 a2] 53))
      go_upto_region 4 with fail
      obtain ⟨W2, hW⟩ : ∃ W, w2.alloc (.cells #[.int .i64 a0, .int .i64 a1, .int .i64 a2] 53) = W := ⟨_, rfl⟩
      rw [hW] at KN KA KB KC KL LL ⊢
      try rw [hm]
      have KD := Lib.hid KN
      clear KN hW hm
      have Dd0 := KD.out.cell (i := 0) rfl
      have Dd1 := KD.out.cell (i := 1) rfl
      have Dd2 := KD.out.cell (i := 2) rfl
      have Ad0 := KA.out.cell (i := 0) rfl
      have Ad1 := KA.out.cell (i := 1) rfl
      have Ad2 := KA.out.cell (i := 2) rfl
      go_wp2_with fail
      go_meet
      exact ⟨KA, KB, KL, LL⟩
  case rest =>
    obtain ⟨KA, KB, KL, LL⟩ := hcut
    have Ad0 := KA.out.cell (i := 0) rfl
    have Ad1 := KA.out.cell (i := 1) rfl
    have Ad2 := KA.out.cell (i := 2) rfl
    have Bd0 := KB.out.cell (i := 0) rfl
    have Bd1 := KB.out.cell (i := 1) rfl
    have Bd2 := KB.out.cell (i := 2) rfl
    go_wp2_with fail
    refine (HSUB.out _).mono ?_
    rintro e w2 ⟨rfl, hb⟩
    replace KA := Lib.hid (KA.out.below hb KA.out.lt)
    replace KB := Lib.hid (KB.out.below hb KB.out.lt)
    replace KL := Lib.hid (KL.out.trans (hb.mono (by have := KL.out.size; have := HN.out; omega)))
    replace LL := Lib.hid (LL.out.below hb)
    clear hb
    clear Ad0 Ad1 Ad2 Bd0 Bd1 Bd2
    obtain ⟨m2, hm⟩ : ∃ m, w2.heap.size = m := ⟨_, rfl⟩
    have KN := Blk.new w2 #[.int .i64 x0, .int .i64 x1, .int .i64 x2] 53
    rw [hm] at KN
    replace KA := Lib.hid (KA.out.alloc (.cells #[.int .i64 x0, .int .i64 x1, .int .i64 x2] 53))
    replace KB := Lib.hid (KB.out.alloc (.cells #[.int .i64 x0, .int .i64 x1, .int .i64 x2] 53))
    replace LL := Lib.hid (LL.out.below ((Below.refl _ _).alloc (Nat.le_refl _) (.cells #[.int .i64 x0, .int .i64 x1, .int .i64 x2] 53)))
    replace KL := Lib.hid (KL.out.alloc (by have := KL.out.size; have := HN.out; omega) (.cells #[.int .i64 x0, .int .i64 x1, .int .i64 x2] 53))
    go_upto_region 7 with fail
    obtain ⟨W2, hW⟩ : ∃ W, w2.alloc (.cells #[.int .i64 x0, .int .i64 x1, .int .i64 x2] 53) = W := ⟨_, rfl⟩
    rw [hW] at KN KA KB KL LL ⊢
    try rw [hm]
    have KX := Lib.hid KN
    clear KN hW hm
    go_upto_if 39 with fail
    go_cut [] (fun wx => Hid (Blk wx n #[.int .i64 a0, .int .i64 a1, .int .i64 a2] 53) ∧ Hid (Blk wx (n + 1) #[.int .i64 b0, .int .i64 b1, .int .i64 b2] 53) ∧ Hid (Below n w wx) ∧ Hid (Laid wx))
    case first =>
        cases r with
        | false =>
          go_wp2_with fail
          go_meet
          exact ⟨KA, KB, KL, LL⟩
        | true =>
          have HADD2X := Lib.hid (HADD2.out (by first | rfl | trivial))
          have Xd0 := KX.out.cell (i := 0) rfl
          have Xd1 := KX.out.cell (i := 1) rfl
          have Xd2 := KX.out.cell (i := 2) rfl
          have Bd0 := KB.out.cell (i := 0) rfl
          have Bd1 := KB.out.cell (i := 1) rfl
          have Bd2 := KB.out.cell (i := 2) rfl
          go_wp2_with fail
          refine (HADD2X.out _).mono ?_
          rintro e w3 ⟨rfl, hb⟩
          replace KA := Lib.hid (KA.out.below hb KA.out.lt)
          replace KB := Lib.hid (KB.out.below hb KB.out.lt)
          replace KX := Lib.hid (KX.out.below hb KX.out.lt)
          replace KL := Lib.hid (KL.out.trans (hb.mono (by have := KL.out.size; have := HN.out; omega)))
          replace LL := Lib.hid (LL.out.below hb)
          clear hb
          clear Xd0 Xd1 Xd2 Bd0 Bd1 Bd2
          obtain ⟨m3, hm⟩ : ∃ m, w3.heap.size = m := ⟨_, rfl⟩
          have KN := Blk.new w3 #[.int .i64 a0, .int .i64 a1, .int .i64 a2] 53
          rw [hm] at KN
          replace KA := Lib.hid (KA.out.alloc (.cells #[.int .i64 a0, .int .i64 a1, .int .i64 a2] 53))
          replace KB := Lib.hid (KB.out.alloc (.cells #[.int .i64 a0, .int .i64 a1, .int .i64 a2] 53))
          replace KX := Lib.hid (KX.out.alloc (.cells #[.int .i64 a0, .int .i64 a1, .int .i64 a2] 53))
          replace LL := Lib.hid (LL.out.below ((Below.refl _ _).alloc (Nat.le_refl _) (.cells #[.int .i64 a0, .int .i64 a1, .int .i64 a2] 53)))
          replace KL := Lib.hid (KL.out.alloc (by have := KL.out.size; have := HN.out; omega) (.cells #[.int .i64 a0, .int .i64 a1, .int .i64 a2] 53))
          go_upto_region 9 with fail
          obtain ⟨W3, hW⟩ : ∃ W, w3.alloc (.cells #[.int .i64 a0, .int .i64 a1, .int .i64 a2] 53) = W := ⟨_, rfl⟩
          rw [hW] at KN KA KB KX KL LL ⊢
          try rw [hm]
          have KY := Lib.hid KN
          clear KN hW hm
          have Yd0 := KY.out.cell (i := 0) rfl
          have Yd1 := KY.out.cell (i := 1) rfl
          have Yd2 := KY.out.cell (i := 2) rfl
          have Ad0 := KA.out.cell (i := 0) rfl
          have Ad1 := KA.out.cell (i := 1) rfl
          have Ad2 := KA.out.cell (i := 2) rfl
          go_wp2_with fail
          go_meet
          exact ⟨KA, KB, KL, LL⟩
    case rest =>
      obtain ⟨KA, KB, KL, LL⟩ := hcut
      obtain ⟨d, hd1, hd2⟩ := HQ.out
      have HD2 := Lib.hid hd2
      clear hd2
      have hrr : (r == r) = true := by simp
      go_upto_region 11 with fail
      cases d with
      | false =>
        have hxx : ¬ l1 = l2 := by have := HD2.out (by first | rfl | trivial); simpa using this
        cases ga with
        | false =>
          skip
          have Ad0 := KA.out.cell (i := 0) rfl
          have Ad1 := KA.out.cell (i := 1) rfl
          have Ad2 := KA.out.cell (i := 2) rfl
          have Bd0 := KB.out.cell (i := 0) rfl
          have Bd1 := KB.out.cell (i := 1) rfl
          have Bd2 := KB.out.cell (i := 2) rfl
          have Al := KA.out.lt
          have Bl := KB.out.lt
          have hw := below_self KL.out
          refine wp_region_held_drew (S := (fun w' => w'.cell? ⟨n, 0, none⟩ = some (.int .i64 a0) ∧ w'.cell? ⟨n, 1, none⟩ = some (.int .i64 a1) ∧ w'.cell? ⟨n, 2, none⟩ = some (.int .i64 a2) ∧ w'.cell? ⟨(n + 1), 0, none⟩ = some (.int .i64 b0) ∧ w'.cell? ⟨(n + 1), 1, none⟩ = some (.int .i64 b1) ∧ w'.cell? ⟨(n + 1), 2, none⟩ = some (.int .i64 b2))) (by kernel_rfl) ⟨KA.out.drew.cell (i := 0) rfl, KA.out.drew.cell (i := 1) rfl, KA.out.drew.cell (i := 2) rfl, KB.out.drew.cell (i := 0) rfl, KB.out.drew.cell (i := 1) rfl, KB.out.drew.cell (i := 2) rfl⟩ (fun hHeld => ?_)
          refine wpAnyH_take (i := 0) (oi := ({ dst := some 53, op := Op.load 53 (Operand.tmp 2), type := 53, pos := "law.go:55", after := #[], guard := none })) (v := (.agg #[.int .i64 a0, .int .i64 a1, .int .i64 a2])) rfl (by kernel_rfl) (by kernel_rfl) (by kernel_rfl) (fun _ _ _ h => h) (Or.inl ⟨by rfl, ?_⟩) (by assumption) ?_
          · (intro w hSw; (try dsimp only at hSw); go_simp)
          try simp only [Act.put, List.setIfInBounds_toArray, List.set_cons_zero, List.set_cons_succ]
          refine wpAnyH_ready (rs := [1]) (by kernel_rfl) (by simp) (AllReadyH.cons (o := ({ dst := some 54, op := Op.call { callee := Callee.value (Operand.func 47), args := #[Operand.tmp 53], argTypes := #[53] }, type := 4, pos := "law.go:55", after := #[{ on := 0, ground := Ground.data }], guard := none })) rfl (fun K hK => ?_) AllReadyH.nil)
          go_simp
          refine (HRA.out _).mono ?_
          rintro e wc ⟨rfl, hbq⟩
          replace hw := hw.trans (Below.mono (by exact ⟨hbq.os, hbq.tape, hbq.output, hbq.size, hbq.block⟩) hw.size)
          clear hbq
          go_wp2_with fail
          clear hHeld
          refine hK.out _ _ ⟨keepB hw Ad0 Al, keepB hw Ad1 Al, keepB hw Ad2 Al, keepB hw Bd0 Bl, keepB hw Bd1 Bl, keepB hw Bd2 Bl⟩ (fun hHeld => ?_)
          clear hK K
          try simp only [Act.put, List.setIfInBounds_toArray, List.set_cons_zero, List.set_cons_succ]
          refine wpAnyH_take (i := 2) (oi := ({ dst := some 55, op := Op.unOp UnOp.not 4 (Operand.tmp 54), type := 4, pos := "law.go:55", after := #[{ on := 1, ground := Ground.data }], guard := none })) (v := (.bool true)) rfl (by kernel_rfl) (by kernel_rfl) (by kernel_rfl) (fun _ _ _ h => h) (Or.inl ⟨by rfl, ?_⟩) (by assumption) ?_
          · (intro w hSw; (try dsimp only at hSw); go_simp)
          try simp only [Act.put, List.setIfInBounds_toArray, List.set_cons_zero, List.set_cons_succ]
          refine wpAnyH_take (i := 3) (oi := ({ dst := some 56, op := Op.move (Operand.tmp 55), type := 4, pos := "law.go:55", after := #[{ on := 2, ground := Ground.data }, { on := 1, ground := Ground.chain }], guard := none })) (v := (.bool true)) rfl (by kernel_rfl) (by kernel_rfl) (by kernel_rfl) (fun _ _ _ h => h) (Or.inl ⟨by rfl, ?_⟩) (by assumption) ?_
          · (intro w hSw; (try dsimp only at hSw); go_simp)
          try simp only [Act.put, List.setIfInBounds_toArray, List.set_cons_zero, List.set_cons_succ]
          refine wpAnyH_take (i := 4) (oi := ({ dst := some 57, op := Op.load 53 (Operand.tmp 3), type := 53, pos := "law.go:55", after := #[{ on := 3, ground := Ground.guard }], guard := some (3, false) })) (v := undef) rfl (by kernel_rfl) (by kernel_rfl) (by kernel_rfl) (fun _ _ _ h => h) (Or.inr ⟨by rfl, rfl⟩) (by assumption) ?_
          try simp only [Act.put, List.setIfInBounds_toArray, List.set_cons_zero, List.set_cons_succ]
          refine wpAnyH_take (i := 5) (oi := ({ dst := some 58, op := Op.call { callee := Callee.value (Operand.func 47), args := #[Operand.tmp 57], argTypes := #[53] }, type := 4, pos := "law.go:55", after := #[{ on := 4, ground := Ground.data }, { on := 3, ground := Ground.chain }, { on := 3, ground := Ground.guard }], guard := some (3, false) })) (v := undef) rfl (by kernel_rfl) (by kernel_rfl) (by kernel_rfl) (fun _ _ _ h => h) (Or.inr ⟨by rfl, rfl⟩) (by assumption) ?_
          try simp only [Act.put, List.setIfInBounds_toArray, List.set_cons_zero, List.set_cons_succ]
          refine wpAnyH_take (i := 6) (oi := ({ dst := some 59, op := Op.unOp UnOp.not 4 (Operand.tmp 58), type := 4, pos := "law.go:55", after := #[{ on := 5, ground := Ground.data }, { on := 3, ground := Ground.guard }], guard := some (3, false) })) (v := undef) rfl (by kernel_rfl) (by kernel_rfl) (by kernel_rfl) (fun _ _ _ h => h) (Or.inr ⟨by rfl, rfl⟩) (by assumption) ?_
          try simp only [Act.put, List.setIfInBounds_toArray, List.set_cons_zero, List.set_cons_succ]
          refine wpAnyH_take (i := 7) (oi := ({ dst := some 60, op := Op.pick (Operand.tmp 56) (Operand.const (Value.bool true)) (Operand.tmp 59), type := 4, pos := "law.go:55", after := #[{ on := 3, ground := Ground.data }, { on := 6, ground := Ground.data }], guard := none })) (v := (.bool true)) rfl (by kernel_rfl) (by kernel_rfl) (by kernel_rfl) (fun _ _ _ h => h) (Or.inl ⟨by rfl, ?_⟩) (by assumption) ?_
          · (intro w hSw; (try dsimp only at hSw); go_simp)
          try simp only [Act.put, List.setIfInBounds_toArray, List.set_cons_zero, List.set_cons_succ]
          refine wpAnyH_take (i := 8) (oi := ({ dst := some 61, op := Op.move (Operand.tmp 60), type := 4, pos := "law.go:55", after := #[{ on := 7, ground := Ground.data }, { on := 5, ground := Ground.chain }], guard := none })) (v := (.bool true)) rfl (by kernel_rfl) (by kernel_rfl) (by kernel_rfl) (fun _ _ _ h => h) (Or.inl ⟨by rfl, ?_⟩) (by assumption) ?_
          · (intro w hSw; (try dsimp only at hSw); go_simp)
          try simp only [Act.put, List.setIfInBounds_toArray, List.set_cons_zero, List.set_cons_succ]
          refine wpAnyH_take (i := 9) (oi := ({ dst := some 62, op := Op.load 53 (Operand.tmp 3), type := 53, pos := "law.go:55", after := #[{ on := 8, ground := Ground.guard }], guard := some (8, false) })) (v := undef) rfl (by kernel_rfl) (by kernel_rfl) (by kernel_rfl) (fun _ _ _ h => h) (Or.inr ⟨by rfl, rfl⟩) (by assumption) ?_
          try simp only [Act.put, List.setIfInBounds_toArray, List.set_cons_zero, List.set_cons_succ]
          refine wpAnyH_take (i := 10) (oi := ({ dst := some 63, op := Op.load 53 (Operand.tmp 2), type := 53, pos := "law.go:55", after := #[{ on := 8, ground := Ground.guard }], guard := some (8, false) })) (v := undef) rfl (by kernel_rfl) (by kernel_rfl) (by kernel_rfl) (fun _ _ _ h => h) (Or.inr ⟨by rfl, rfl⟩) (by assumption) ?_
          try simp only [Act.put, List.setIfInBounds_toArray, List.set_cons_zero, List.set_cons_succ]
          refine wpAnyH_take (i := 12) (oi := ({ dst := some 65, op := Op.move (Operand.tmp 10), type := 4, pos := "law.go:55", after := #[{ on := 8, ground := Ground.guard }], guard := some (8, false) })) (v := undef) rfl (by kernel_rfl) (by kernel_rfl) (by kernel_rfl) (fun _ _ _ h => h) (Or.inr ⟨by rfl, rfl⟩) (by assumption) ?_
          try simp only [Act.put, List.setIfInBounds_toArray, List.set_cons_zero, List.set_cons_succ]
          refine wpAnyH_take (i := 11) (oi := ({ dst := some 64, op := Op.call { callee := Callee.value (Operand.func 49), args := #[Operand.tmp 62, Operand.tmp 63], argTypes := #[53, 53] }, type := 4, pos := "law.go:55", after := #[{ on := 9, ground := Ground.data }, { on := 10, ground := Ground.data }, { on := 8, ground := Ground.chain }, { on := 8, ground := Ground.guard }], guard := some (8, false) })) (v := undef) rfl (by kernel_rfl) (by kernel_rfl) (by kernel_rfl) (fun _ _ _ h => h) (Or.inr ⟨by rfl, rfl⟩) (by assumption) ?_
          try simp only [Act.put, List.setIfInBounds_toArray, List.set_cons_zero, List.set_cons_succ]
          refine wpAnyH_take (i := 13) (oi := ({ dst := some 66, op := Op.binOp BinOp.eql 4 (Operand.tmp 64) (Operand.tmp 65) 4, type := 4, pos := "law.go:55", after := #[{ on := 11, ground := Ground.data }, { on := 12, ground := Ground.data }, { on := 8, ground := Ground.guard }], guard := some (8, false) })) (v := undef) rfl (by kernel_rfl) (by kernel_rfl) (by kernel_rfl) (fun _ _ _ h => h) (Or.inr ⟨by rfl, rfl⟩) (by assumption) ?_
          try simp only [Act.put, List.setIfInBounds_toArray, List.set_cons_zero, List.set_cons_succ]
          refine wpAnyH_take (i := 14) (oi := ({ dst := some 67, op := Op.pick (Operand.tmp 61) (Operand.const (Value.bool true)) (Operand.tmp 66), type := 4, pos := "law.go:55", after := #[{ on := 8, ground := Ground.data }, { on := 13, ground := Ground.data }], guard := none })) (v := (.bool true)) rfl (by kernel_rfl) (by kernel_rfl) (by kernel_rfl) (fun _ _ _ h => h) (Or.inl ⟨by rfl, ?_⟩) (by assumption) ?_
          · (intro w hSw; (try dsimp only at hSw); go_simp)
          try simp only [Act.put, List.setIfInBounds_toArray, List.set_cons_zero, List.set_cons_succ]
          refine wpAnyH_take (i := 15) (oi := ({ dst := some 68, op := Op.move (Operand.tmp 67), type := 4, pos := "law.go:55", after := #[{ on := 14, ground := Ground.data }, { on := 11, ground := Ground.chain }], guard := none })) (v := (.bool true)) rfl (by kernel_rfl) (by kernel_rfl) (by kernel_rfl) (fun _ _ _ h => h) (Or.inl ⟨by rfl, ?_⟩) (by assumption) ?_
          · (intro w hSw; (try dsimp only at hSw); go_simp)
          try simp only [Act.put, List.setIfInBounds_toArray, List.set_cons_zero, List.set_cons_succ]
          refine wpAnyH_take (i := 16) (oi := ({ dst := some 69, op := Op.load 53 (Operand.tmp 2), type := 53, pos := "law.go:55", after := #[{ on := 15, ground := Ground.guard }], guard := some (15, true) })) (v := (.agg #[.int .i64 a0, .int .i64 a1, .int .i64 a2])) rfl (by kernel_rfl) (by kernel_rfl) (by kernel_rfl) (fun _ _ _ h => h) (Or.inl ⟨by rfl, ?_⟩) (by assumption) ?_
          · (intro w hSw; (try dsimp only at hSw); go_simp)
          try simp only [Act.put, List.setIfInBounds_toArray, List.set_cons_zero, List.set_cons_succ]
          refine wpAnyH_take (i := 17) (oi := ({ dst := some 70, op := Op.load 53 (Operand.tmp 3), type := 53, pos := "law.go:55", after := #[{ on := 15, ground := Ground.guard }], guard := some (15, true) })) (v := (.agg #[.int .i64 b0, .int .i64 b1, .int .i64 b2])) rfl (by kernel_rfl) (by kernel_rfl) (by kernel_rfl) (fun _ _ _ h => h) (Or.inl ⟨by rfl, ?_⟩) (by assumption) ?_
          · (intro w hSw; (try dsimp only at hSw); go_simp)
          try simp only [Act.put, List.setIfInBounds_toArray, List.set_cons_zero, List.set_cons_succ]
          refine wpAnyH_take (i := 18) (oi := ({ dst := some 71, op := Op.binOp BinOp.eql 53 (Operand.tmp 69) (Operand.tmp 70) 53, type := 4, pos := "law.go:55", after := #[{ on := 16, ground := Ground.data }, { on := 17, ground := Ground.data }, { on := 15, ground := Ground.guard }], guard := some (15, true) })) (v := (.bool false)) rfl (by kernel_rfl) (by kernel_rfl) (by kernel_rfl) (fun _ _ _ h => h) (Or.inl ⟨by rfl, ?_⟩) (by assumption) ?_
          · (intro w hSw; (try dsimp only at hSw); go_simp)
          try simp only [Act.put, List.setIfInBounds_toArray, List.set_cons_zero, List.set_cons_succ]
          refine wpAnyH_take (i := 19) (oi := ({ dst := some 72, op := Op.move (Operand.tmp 71), type := 4, pos := "law.go:55", after := #[{ on := 18, ground := Ground.data }, { on := 15, ground := Ground.chain }, { on := 15, ground := Ground.guard }], guard := some (15, true) })) (v := (.bool false)) rfl (by kernel_rfl) (by kernel_rfl) (by kernel_rfl) (fun _ _ _ h => h) (Or.inl ⟨by rfl, ?_⟩) (by assumption) ?_
          · (intro w hSw; (try dsimp only at hSw); go_simp)
          try simp only [Act.put, List.setIfInBounds_toArray, List.set_cons_zero, List.set_cons_succ]
          refine wpAnyH_take (i := 20) (oi := ({ dst := some 73, op := Op.load 53 (Operand.tmp 2), type := 53, pos := "law.go:55", after := #[{ on := 19, ground := Ground.guard }], guard := some (19, false) })) (v := (.agg #[.int .i64 a0, .int .i64 a1, .int .i64 a2])) rfl (by kernel_rfl) (by kernel_rfl) (by kernel_rfl) (fun _ _ _ h => h) (Or.inl ⟨by rfl, ?_⟩) (by assumption) ?_
          · (intro w hSw; (try dsimp only at hSw); go_simp)
          try simp only [Act.put, List.setIfInBounds_toArray, List.set_cons_zero, List.set_cons_succ]
          refine wpAnyH_take (i := 21) (oi := ({ dst := some 74, op := Op.load 53 (Operand.tmp 3), type := 53, pos := "law.go:55", after := #[{ on := 19, ground := Ground.guard }], guard := some (19, false) })) (v := (.agg #[.int .i64 b0, .int .i64 b1, .int .i64 b2])) rfl (by kernel_rfl) (by kernel_rfl) (by kernel_rfl) (fun _ _ _ h => h) (Or.inl ⟨by rfl, ?_⟩) (by assumption) ?_
          · (intro w hSw; (try dsimp only at hSw); go_simp)
          try simp only [Act.put, List.setIfInBounds_toArray, List.set_cons_zero, List.set_cons_succ]
          refine wpAnyH_take (i := 23) (oi := ({ dst := some 76, op := Op.load 53 (Operand.tmp 3), type := 53, pos := "law.go:55", after := #[{ on := 19, ground := Ground.guard }], guard := some (19, false) })) (v := (.agg #[.int .i64 b0, .int .i64 b1, .int .i64 b2])) rfl (by kernel_rfl) (by kernel_rfl) (by kernel_rfl) (fun _ _ _ h => h) (Or.inl ⟨by rfl, ?_⟩) (by assumption) ?_
          · (intro w hSw; (try dsimp only at hSw); go_simp)
          try simp only [Act.put, List.setIfInBounds_toArray, List.set_cons_zero, List.set_cons_succ]
          refine wpAnyH_take (i := 24) (oi := ({ dst := some 77, op := Op.load 53 (Operand.tmp 2), type := 53, pos := "law.go:55", after := #[{ on := 19, ground := Ground.guard }], guard := some (19, false) })) (v := (.agg #[.int .i64 a0, .int .i64 a1, .int .i64 a2])) rfl (by kernel_rfl) (by kernel_rfl) (by kernel_rfl) (fun _ _ _ h => h) (Or.inl ⟨by rfl, ?_⟩) (by assumption) ?_
          · (intro w hSw; (try dsimp only at hSw); go_simp)
          try simp only [Act.put, List.setIfInBounds_toArray, List.set_cons_zero, List.set_cons_succ]
          refine wpAnyH_ready (rs := [22]) (by kernel_rfl) (by simp) (AllReadyH.cons (o := ({ dst := some 75, op := Op.call { callee := Callee.value (Operand.func 51), args := #[Operand.tmp 73, Operand.tmp 74], argTypes := #[53, 53] }, type := 4, pos := "law.go:55", after := #[{ on := 20, ground := Ground.data }, { on := 21, ground := Ground.data }, { on := 19, ground := Ground.chain }, { on := 19, ground := Ground.guard }], guard := some (19, false) })) rfl (fun K hK => ?_) AllReadyH.nil)
          go_simp
          refine (HL1.out _).mono ?_
          rintro e wc ⟨rfl, hbq⟩
          replace hw := hw.trans (Below.mono (by exact ⟨hbq.os, hbq.tape, hbq.output, hbq.size, hbq.block⟩) hw.size)
          clear hbq
          go_wp2_with fail
          clear hHeld
          refine hK.out _ _ ⟨keepB hw Ad0 Al, keepB hw Ad1 Al, keepB hw Ad2 Al, keepB hw Bd0 Bl, keepB hw Bd1 Bl, keepB hw Bd2 Bl⟩ (fun hHeld => ?_)
          clear hK K
          try simp only [Act.put, List.setIfInBounds_toArray, List.set_cons_zero, List.set_cons_succ]
          refine wpAnyH_ready (rs := [25]) (by kernel_rfl) (by simp) (AllReadyH.cons (o := ({ dst := some 78, op := Op.call { callee := Callee.value (Operand.func 51), args := #[Operand.tmp 76, Operand.tmp 77], argTypes := #[53, 53] }, type := 4, pos := "law.go:55", after := #[{ on := 23, ground := Ground.data }, { on := 24, ground := Ground.data }, { on := 22, ground := Ground.chain }, { on := 19, ground := Ground.guard }], guard := some (19, false) })) rfl (fun K hK => ?_) AllReadyH.nil)
          go_simp
          refine (HL2.out _).mono ?_
          rintro e wc ⟨rfl, hbq⟩
          replace hw := hw.trans (Below.mono (by exact ⟨hbq.os, hbq.tape, hbq.output, hbq.size, hbq.block⟩) hw.size)
          clear hbq
          go_wp2_with fail
          clear hHeld
          refine hK.out _ _ ⟨keepB hw Ad0 Al, keepB hw Ad1 Al, keepB hw Ad2 Al, keepB hw Bd0 Bl, keepB hw Bd1 Bl, keepB hw Bd2 Bl⟩ (fun hHeld => ?_)
          clear hK K
          try simp only [Act.put, List.setIfInBounds_toArray, List.set_cons_zero, List.set_cons_succ]
          refine wpAnyH_take (i := 26) (oi := ({ dst := some 79, op := Op.binOp BinOp.neq 4 (Operand.tmp 75) (Operand.tmp 78) 4, type := 4, pos := "law.go:55", after := #[{ on := 22, ground := Ground.data }, { on := 25, ground := Ground.data }, { on := 19, ground := Ground.guard }], guard := some (19, false) })) (v := (.bool true)) rfl (by kernel_rfl) (by kernel_rfl) (by kernel_rfl) (fun _ _ _ h => h) (Or.inl ⟨by rfl, ?_⟩) (by assumption) ?_
          · (intro w hSw; (try dsimp only at hSw); go_simp)
          try simp only [Act.put, List.setIfInBounds_toArray, List.set_cons_zero, List.set_cons_succ]
          refine wpAnyH_take (i := 27) (oi := ({ dst := some 80, op := Op.pick (Operand.tmp 72) (Operand.const (Value.bool true)) (Operand.tmp 79), type := 4, pos := "law.go:55", after := #[{ on := 19, ground := Ground.data }, { on := 26, ground := Ground.data }, { on := 15, ground := Ground.guard }], guard := some (15, true) })) (v := (.bool true)) rfl (by kernel_rfl) (by kernel_rfl) (by kernel_rfl) (fun _ _ _ h => h) (Or.inl ⟨by rfl, ?_⟩) (by assumption) ?_
          · (intro w hSw; (try dsimp only at hSw); go_simp)
          try simp only [Act.put, List.setIfInBounds_toArray, List.set_cons_zero, List.set_cons_succ]
          refine wpAnyH_take (i := 28) (oi := ({ dst := some 81, op := Op.pick (Operand.tmp 68) (Operand.tmp 80) (Operand.const (Value.bool false)), type := 4, pos := "law.go:55", after := #[{ on := 15, ground := Ground.data }, { on := 27, ground := Ground.data }], guard := none })) (v := (.bool true)) rfl (by kernel_rfl) (by kernel_rfl) (by kernel_rfl) (fun _ _ _ h => h) (Or.inl ⟨by rfl, ?_⟩) (by assumption) ?_
          · (intro w hSw; (try dsimp only at hSw); go_simp)
          try simp only [Act.put, List.setIfInBounds_toArray, List.set_cons_zero, List.set_cons_succ]
          refine wpAnyH_take (i := 29) (oi := ({ dst := some 82, op := Op.move (Operand.tmp 81), type := 4, pos := "law.go:55", after := #[{ on := 28, ground := Ground.data }, { on := 25, ground := Ground.chain }], guard := none })) (v := (.bool true)) rfl (by kernel_rfl) (by kernel_rfl) (by kernel_rfl) (fun _ _ _ h => h) (Or.inl ⟨by rfl, ?_⟩) (by assumption) ?_
          · (intro w hSw; (try dsimp only at hSw); go_simp)
          try simp only [Act.put, List.setIfInBounds_toArray, List.set_cons_zero, List.set_cons_succ]
          refine wpAnyH_take (i := 30) (oi := ({ dst := some 83, op := Op.load 53 (Operand.tmp 2), type := 53, pos := "law.go:55", after := #[{ on := 29, ground := Ground.guard }], guard := some (29, true) })) (v := (.agg #[.int .i64 a0, .int .i64 a1, .int .i64 a2])) rfl (by kernel_rfl) (by kernel_rfl) (by kernel_rfl) (fun _ _ _ h => h) (Or.inl ⟨by rfl, ?_⟩) (by assumption) ?_
          · (intro w hSw; (try dsimp only at hSw); go_simp)
          try simp only [Act.put, List.setIfInBounds_toArray, List.set_cons_zero, List.set_cons_succ]
          refine wpAnyH_take (i := 31) (oi := ({ dst := some 84, op := Op.load 53 (Operand.tmp 2), type := 53, pos := "law.go:55", after := #[{ on := 29, ground := Ground.guard }], guard := some (29, true) })) (v := (.agg #[.int .i64 a0, .int .i64 a1, .int .i64 a2])) rfl (by kernel_rfl) (by kernel_rfl) (by kernel_rfl) (fun _ _ _ h => h) (Or.inl ⟨by rfl, ?_⟩) (by assumption) ?_
          · (intro w hSw; (try dsimp only at hSw); go_simp)
          try simp only [Act.put, List.setIfInBounds_toArray, List.set_cons_zero, List.set_cons_succ]
          refine wpAnyH_ready (rs := [32]) (by kernel_rfl) (by simp) (AllReadyH.cons (o := ({ dst := some 85, op := Op.call { callee := Callee.value (Operand.func 51), args := #[Operand.tmp 83, Operand.tmp 84], argTypes := #[53, 53] }, type := 4, pos := "law.go:55", after := #[{ on := 30, ground := Ground.data }, { on := 31, ground := Ground.data }, { on := 29, ground := Ground.chain }, { on := 29, ground := Ground.guard }], guard := some (29, true) })) rfl (fun K hK => ?_) AllReadyH.nil)
          go_simp
          refine (HLS.out _).mono ?_
          rintro e wc ⟨rfl, hbq⟩
          replace hw := hw.trans (Below.mono (by exact ⟨hbq.os, hbq.tape, hbq.output, hbq.size, hbq.block⟩) hw.size)
          clear hbq
          go_wp2_with fail
          clear hHeld
          refine hK.out _ _ ⟨keepB hw Ad0 Al, keepB hw Ad1 Al, keepB hw Ad2 Al, keepB hw Bd0 Bl, keepB hw Bd1 Bl, keepB hw Bd2 Bl⟩ (fun hHeld => ?_)
          clear hK K
          try simp only [Act.put, List.setIfInBounds_toArray, List.set_cons_zero, List.set_cons_succ]
          refine wpAnyH_take (i := 33) (oi := ({ dst := some 86, op := Op.unOp UnOp.not 4 (Operand.tmp 85), type := 4, pos := "law.go:55", after := #[{ on := 32, ground := Ground.data }, { on := 29, ground := Ground.guard }], guard := some (29, true) })) (v := (.bool true)) rfl (by kernel_rfl) (by kernel_rfl) (by kernel_rfl) (fun _ _ _ h => h) (Or.inl ⟨by rfl, ?_⟩) (by assumption) ?_
          · (intro w hSw; (try dsimp only at hSw); go_simp)
          try simp only [Act.put, List.setIfInBounds_toArray, List.set_cons_zero, List.set_cons_succ]
          refine wpAnyH_take (i := 34) (oi := ({ dst := some 87, op := Op.pick (Operand.tmp 82) (Operand.tmp 86) (Operand.const (Value.bool false)), type := 4, pos := "law.go:55", after := #[{ on := 29, ground := Ground.data }, { on := 33, ground := Ground.data }], guard := none })) (v := (.bool true)) rfl (by kernel_rfl) (by kernel_rfl) (by kernel_rfl) (fun _ _ _ h => h) (Or.inl ⟨by rfl, ?_⟩) (by assumption) ?_
          · (intro w hSw; (try dsimp only at hSw); go_simp)
          try simp only [Act.put, List.setIfInBounds_toArray, List.set_cons_zero, List.set_cons_succ]
          refine wpAnyH_take (i := 35) (oi := ({ dst := some 88, op := Op.move (Operand.tmp 87), type := 4, pos := "law.go:55", after := #[{ on := 34, ground := Ground.data }, { on := 32, ground := Ground.chain }], guard := none })) (v := (.bool true)) rfl (by kernel_rfl) (by kernel_rfl) (by kernel_rfl) (fun _ _ _ h => h) (Or.inl ⟨by rfl, ?_⟩) (by assumption) ?_
          · (intro w hSw; (try dsimp only at hSw); go_simp)
          try simp only [Act.put, List.setIfInBounds_toArray, List.set_cons_zero, List.set_cons_succ]
          refine wpAnyH_ready (rs := [36]) (by kernel_rfl) (by simp) (AllReadyH.cons (o := ({ dst := some 89, op := Op.call { callee := Callee.value (Operand.func 55), args := #[], argTypes := #[] }, type := 4, pos := "law.go:55", after := #[{ on := 35, ground := Ground.chain }, { on := 35, ground := Ground.guard }], guard := some (35, true) })) rfl (fun K hK => ?_) AllReadyH.nil)
          go_simp
          refine (AW.out _ (LL.out.below (by exact ⟨hw.os, hw.tape, hw.output, hw.size, hw.block⟩))).mono ?_
          rintro e wc ⟨rfl, hbq⟩
          replace hw := hw.trans (Below.mono (by exact ⟨hbq.os, hbq.tape, hbq.output, hbq.size, hbq.block⟩) hw.size)
          clear hbq
          go_wp2_with fail
          clear hHeld
          refine hK.out _ _ ⟨keepB hw Ad0 Al, keepB hw Ad1 Al, keepB hw Ad2 Al, keepB hw Bd0 Bl, keepB hw Bd1 Bl, keepB hw Bd2 Bl⟩ (fun hHeld => ?_)
          clear hK K
          try simp only [Act.put, List.setIfInBounds_toArray, List.set_cons_zero, List.set_cons_succ]
          refine wpAnyH_take (i := 37) (oi := ({ dst := some 90, op := Op.pick (Operand.tmp 88) (Operand.tmp 89) (Operand.const (Value.bool false)), type := 4, pos := "law.go:55", after := #[{ on := 35, ground := Ground.data }, { on := 36, ground := Ground.data }], guard := none })) (v := (.bool true)) rfl (by kernel_rfl) (by kernel_rfl) (by kernel_rfl) (fun _ _ _ h => h) (Or.inl ⟨by rfl, ?_⟩) (by assumption) ?_
          · (intro w hSw; (try dsimp only at hSw); go_simp)
          try simp only [Act.put, List.setIfInBounds_toArray, List.set_cons_zero, List.set_cons_succ]
          refine wpAnyH_take (i := 38) (oi := ({ dst := some 4, op := Op.assign (Operand.tmp 90), type := 4, pos := "law.go:55", after := #[{ on := 37, ground := Ground.data }, { on := 36, ground := Ground.chain }, { on := 0, ground := Ground.phase }, { on := 1, ground := Ground.phase }, { on := 2, ground := Ground.phase }, { on := 3, ground := Ground.phase }, { on := 4, ground := Ground.phase }, { on := 5, ground := Ground.phase }, { on := 6, ground := Ground.phase }, { on := 7, ground := Ground.phase }, { on := 8, ground := Ground.phase }, { on := 9, ground := Ground.phase }, { on := 10, ground := Ground.phase }, { on := 11, ground := Ground.phase }, { on := 12, ground := Ground.phase }, { on := 13, ground := Ground.phase }, { on := 14, ground := Ground.phase }, { on := 15, ground := Ground.phase }, { on := 16, ground := Ground.phase }, { on := 17, ground := Ground.phase }, { on := 18, ground := Ground.phase }, { on := 19, ground := Ground.phase }, { on := 20, ground := Ground.phase }, { on := 21, ground := Ground.phase }, { on := 22, ground := Ground.phase }, { on := 23, ground := Ground.phase }, { on := 24, ground := Ground.phase }, { on := 25, ground := Ground.phase }, { on := 26, ground := Ground.phase }, { on := 27, ground := Ground.phase }, { on := 28, ground := Ground.phase }, { on := 29, ground := Ground.phase }, { on := 30, ground := Ground.phase }, { on := 31, ground := Ground.phase }, { on := 32, ground := Ground.phase }, { on := 33, ground := Ground.phase }, { on := 34, ground := Ground.phase }, { on := 35, ground := Ground.phase }, { on := 36, ground := Ground.phase }, { on := 37, ground := Ground.phase }], guard := none })) (v := (.bool true)) rfl (by kernel_rfl) (by kernel_rfl) (by kernel_rfl) (fun _ _ _ h => h) (Or.inl ⟨by rfl, ?_⟩) (by assumption) ?_
          · (intro w hSw; (try dsimp only at hSw); go_simp)
          try simp only [Act.put, List.setIfInBounds_toArray, List.set_cons_zero, List.set_cons_succ]
          refine wpAnyH_done (by kernel_rfl) ?_ _
          clear hHeld
          have KL9 := Lib.hid (KL.out.trans (hw.mono (by have := KL.out.size; have := HN.out; omega)))
          go_wp2_with fail
          go_ret
          exact ⟨rfl, KL9.out⟩
        | true =>
          cases gb with
          | false =>
            skip
            have Ad0 := KA.out.cell (i := 0) rfl
            have Ad1 := KA.out.cell (i := 1) rfl
            have Ad2 := KA.out.cell (i := 2) rfl
            have Bd0 := KB.out.cell (i := 0) rfl
            have Bd1 := KB.out.cell (i := 1) rfl
            have Bd2 := KB.out.cell (i := 2) rfl
            have Al := KA.out.lt
            have Bl := KB.out.lt
            have hw := below_self KL.out
            refine wp_region_held_drew (S := (fun w' => w'.cell? ⟨n, 0, none⟩ = some (.int .i64 a0) ∧ w'.cell? ⟨n, 1, none⟩ = some (.int .i64 a1) ∧ w'.cell? ⟨n, 2, none⟩ = some (.int .i64 a2) ∧ w'.cell? ⟨(n + 1), 0, none⟩ = some (.int .i64 b0) ∧ w'.cell? ⟨(n + 1), 1, none⟩ = some (.int .i64 b1) ∧ w'.cell? ⟨(n + 1), 2, none⟩ = some (.int .i64 b2))) (by kernel_rfl) ⟨KA.out.drew.cell (i := 0) rfl, KA.out.drew.cell (i := 1) rfl, KA.out.drew.cell (i := 2) rfl, KB.out.drew.cell (i := 0) rfl, KB.out.drew.cell (i := 1) rfl, KB.out.drew.cell (i := 2) rfl⟩ (fun hHeld => ?_)
            refine wpAnyH_take (i := 0) (oi := ({ dst := some 53, op := Op.load 53 (Operand.tmp 2), type := 53, pos := "law.go:55", after := #[], guard := none })) (v := (.agg #[.int .i64 a0, .int .i64 a1, .int .i64 a2])) rfl (by kernel_rfl) (by kernel_rfl) (by kernel_rfl) (fun _ _ _ h => h) (Or.inl ⟨by rfl, ?_⟩) (by assumption) ?_
            · (intro w hSw; (try dsimp only at hSw); go_simp)
            try simp only [Act.put, List.setIfInBounds_toArray, List.set_cons_zero, List.set_cons_succ]
            refine wpAnyH_ready (rs := [1]) (by kernel_rfl) (by simp) (AllReadyH.cons (o := ({ dst := some 54, op := Op.call { callee := Callee.value (Operand.func 47), args := #[Operand.tmp 53], argTypes := #[53] }, type := 4, pos := "law.go:55", after := #[{ on := 0, ground := Ground.data }], guard := none })) rfl (fun K hK => ?_) AllReadyH.nil)
            go_simp
            refine (HRA.out _).mono ?_
            rintro e wc ⟨rfl, hbq⟩
            replace hw := hw.trans (Below.mono (by exact ⟨hbq.os, hbq.tape, hbq.output, hbq.size, hbq.block⟩) hw.size)
            clear hbq
            go_wp2_with fail
            clear hHeld
            refine hK.out _ _ ⟨keepB hw Ad0 Al, keepB hw Ad1 Al, keepB hw Ad2 Al, keepB hw Bd0 Bl, keepB hw Bd1 Bl, keepB hw Bd2 Bl⟩ (fun hHeld => ?_)
            clear hK K
            try simp only [Act.put, List.setIfInBounds_toArray, List.set_cons_zero, List.set_cons_succ]
            refine wpAnyH_take (i := 2) (oi := ({ dst := some 55, op := Op.unOp UnOp.not 4 (Operand.tmp 54), type := 4, pos := "law.go:55", after := #[{ on := 1, ground := Ground.data }], guard := none })) (v := (.bool false)) rfl (by kernel_rfl) (by kernel_rfl) (by kernel_rfl) (fun _ _ _ h => h) (Or.inl ⟨by rfl, ?_⟩) (by assumption) ?_
            · (intro w hSw; (try dsimp only at hSw); go_simp)
            try simp only [Act.put, List.setIfInBounds_toArray, List.set_cons_zero, List.set_cons_succ]
            refine wpAnyH_take (i := 3) (oi := ({ dst := some 56, op := Op.move (Operand.tmp 55), type := 4, pos := "law.go:55", after := #[{ on := 2, ground := Ground.data }, { on := 1, ground := Ground.chain }], guard := none })) (v := (.bool false)) rfl (by kernel_rfl) (by kernel_rfl) (by kernel_rfl) (fun _ _ _ h => h) (Or.inl ⟨by rfl, ?_⟩) (by assumption) ?_
            · (intro w hSw; (try dsimp only at hSw); go_simp)
            try simp only [Act.put, List.setIfInBounds_toArray, List.set_cons_zero, List.set_cons_succ]
            refine wpAnyH_take (i := 4) (oi := ({ dst := some 57, op := Op.load 53 (Operand.tmp 3), type := 53, pos := "law.go:55", after := #[{ on := 3, ground := Ground.guard }], guard := some (3, false) })) (v := (.agg #[.int .i64 b0, .int .i64 b1, .int .i64 b2])) rfl (by kernel_rfl) (by kernel_rfl) (by kernel_rfl) (fun _ _ _ h => h) (Or.inl ⟨by rfl, ?_⟩) (by assumption) ?_
            · (intro w hSw; (try dsimp only at hSw); go_simp)
            try simp only [Act.put, List.setIfInBounds_toArray, List.set_cons_zero, List.set_cons_succ]
            refine wpAnyH_ready (rs := [5]) (by kernel_rfl) (by simp) (AllReadyH.cons (o := ({ dst := some 58, op := Op.call { callee := Callee.value (Operand.func 47), args := #[Operand.tmp 57], argTypes := #[53] }, type := 4, pos := "law.go:55", after := #[{ on := 4, ground := Ground.data }, { on := 3, ground := Ground.chain }, { on := 3, ground := Ground.guard }], guard := some (3, false) })) rfl (fun K hK => ?_) AllReadyH.nil)
            go_simp
            refine (HRB.out _).mono ?_
            rintro e wc ⟨rfl, hbq⟩
            replace hw := hw.trans (Below.mono (by exact ⟨hbq.os, hbq.tape, hbq.output, hbq.size, hbq.block⟩) hw.size)
            clear hbq
            go_wp2_with fail
            clear hHeld
            refine hK.out _ _ ⟨keepB hw Ad0 Al, keepB hw Ad1 Al, keepB hw Ad2 Al, keepB hw Bd0 Bl, keepB hw Bd1 Bl, keepB hw Bd2 Bl⟩ (fun hHeld => ?_)
            clear hK K
            try simp only [Act.put, List.setIfInBounds_toArray, List.set_cons_zero, List.set_cons_succ]
            refine wpAnyH_take (i := 6) (oi := ({ dst := some 59, op := Op.unOp UnOp.not 4 (Operand.tmp 58), type := 4, pos := "law.go:55", after := #[{ on := 5, ground := Ground.data }, { on := 3, ground := Ground.guard }], guard := some (3, false) })) (v := (.bool true)) rfl (by kernel_rfl) (by kernel_rfl) (by kernel_rfl) (fun _ _ _ h => h) (Or.inl ⟨by rfl, ?_⟩) (by assumption) ?_
            · (intro w hSw; (try dsimp only at hSw); go_simp)
            try simp only [Act.put, List.setIfInBounds_toArray, List.set_cons_zero, List.set_cons_succ]
            refine wpAnyH_take (i := 7) (oi := ({ dst := some 60, op := Op.pick (Operand.tmp 56) (Operand.const (Value.bool true)) (Operand.tmp 59), type := 4, pos := "law.go:55", after := #[{ on := 3, ground := Ground.data }, { on := 6, ground := Ground.data }], guard := none })) (v := (.bool true)) rfl (by kernel_rfl) (by kernel_rfl) (by kernel_rfl) (fun _ _ _ h => h) (Or.inl ⟨by rfl, ?_⟩) (by assumption) ?_
            · (intro w hSw; (try dsimp only at hSw); go_simp)
            try simp only [Act.put, List.setIfInBounds_toArray, List.set_cons_zero, List.set_cons_succ]
            refine wpAnyH_take (i := 8) (oi := ({ dst := some 61, op := Op.move (Operand.tmp 60), type := 4, pos := "law.go:55", after := #[{ on := 7, ground := Ground.data }, { on := 5, ground := Ground.chain }], guard := none })) (v := (.bool true)) rfl (by kernel_rfl) (by kernel_rfl) (by kernel_rfl) (fun _ _ _ h => h) (Or.inl ⟨by rfl, ?_⟩) (by assumption) ?_
            · (intro w hSw; (try dsimp only at hSw); go_simp)
            try simp only [Act.put, List.setIfInBounds_toArray, List.set_cons_zero, List.set_cons_succ]
            refine wpAnyH_take (i := 9) (oi := ({ dst := some 62, op := Op.load 53 (Operand.tmp 3), type := 53, pos := "law.go:55", after := #[{ on := 8, ground := Ground.guard }], guard := some (8, false) })) (v := undef) rfl (by kernel_rfl) (by kernel_rfl) (by kernel_rfl) (fun _ _ _ h => h) (Or.inr ⟨by rfl, rfl⟩) (by assumption) ?_
            try simp only [Act.put, List.setIfInBounds_toArray, List.set_cons_zero, List.set_cons_succ]
            refine wpAnyH_take (i := 10) (oi := ({ dst := some 63, op := Op.load 53 (Operand.tmp 2), type := 53, pos := "law.go:55", after := #[{ on := 8, ground := Ground.guard }], guard := some (8, false) })) (v := undef) rfl (by kernel_rfl) (by kernel_rfl) (by kernel_rfl) (fun _ _ _ h => h) (Or.inr ⟨by rfl, rfl⟩) (by assumption) ?_
            try simp only [Act.put, List.setIfInBounds_toArray, List.set_cons_zero, List.set_cons_succ]
            refine wpAnyH_take (i := 12) (oi := ({ dst := some 65, op := Op.move (Operand.tmp 10), type := 4, pos := "law.go:55", after := #[{ on := 8, ground := Ground.guard }], guard := some (8, false) })) (v := undef) rfl (by kernel_rfl) (by kernel_rfl) (by kernel_rfl) (fun _ _ _ h => h) (Or.inr ⟨by rfl, rfl⟩) (by assumption) ?_
            try simp only [Act.put, List.setIfInBounds_toArray, List.set_cons_zero, List.set_cons_succ]
            refine wpAnyH_take (i := 11) (oi := ({ dst := some 64, op := Op.call { callee := Callee.value (Operand.func 49), args := #[Operand.tmp 62, Operand.tmp 63], argTypes := #[53, 53] }, type := 4, pos := "law.go:55", after := #[{ on := 9, ground := Ground.data }, { on := 10, ground := Ground.data }, { on := 8, ground := Ground.chain }, { on := 8, ground := Ground.guard }], guard := some (8, false) })) (v := undef) rfl (by kernel_rfl) (by kernel_rfl) (by kernel_rfl) (fun _ _ _ h => h) (Or.inr ⟨by rfl, rfl⟩) (by assumption) ?_
            try simp only [Act.put, List.setIfInBounds_toArray, List.set_cons_zero, List.set_cons_succ]
            refine wpAnyH_take (i := 13) (oi := ({ dst := some 66, op := Op.binOp BinOp.eql 4 (Operand.tmp 64) (Operand.tmp 65) 4, type := 4, pos := "law.go:55", after := #[{ on := 11, ground := Ground.data }, { on := 12, ground := Ground.data }, { on := 8, ground := Ground.guard }], guard := some (8, false) })) (v := undef) rfl (by kernel_rfl) (by kernel_rfl) (by kernel_rfl) (fun _ _ _ h => h) (Or.inr ⟨by rfl, rfl⟩) (by assumption) ?_
            try simp only [Act.put, List.setIfInBounds_toArray, List.set_cons_zero, List.set_cons_succ]
            refine wpAnyH_take (i := 14) (oi := ({ dst := some 67, op := Op.pick (Operand.tmp 61) (Operand.const (Value.bool true)) (Operand.tmp 66), type := 4, pos := "law.go:55", after := #[{ on := 8, ground := Ground.data }, { on := 13, ground := Ground.data }], guard := none })) (v := (.bool true)) rfl (by kernel_rfl) (by kernel_rfl) (by kernel_rfl) (fun _ _ _ h => h) (Or.inl ⟨by rfl, ?_⟩) (by assumption) ?_
            · (intro w hSw; (try dsimp only at hSw); go_simp)
            try simp only [Act.put, List.setIfInBounds_toArray, List.set_cons_zero, List.set_cons_succ]
            refine wpAnyH_take (i := 15) (oi := ({ dst := some 68, op := Op.move (Operand.tmp 67), type := 4, pos := "law.go:55", after := #[{ on := 14, ground := Ground.data }, { on := 11, ground := Ground.chain }], guard := none })) (v := (.bool true)) rfl (by kernel_rfl) (by kernel_rfl) (by kernel_rfl) (fun _ _ _ h => h) (Or.inl ⟨by rfl, ?_⟩) (by assumption) ?_
            · (intro w hSw; (try dsimp only at hSw); go_simp)
            try simp only [Act.put, List.setIfInBounds_toArray, List.set_cons_zero, List.set_cons_succ]
            refine wpAnyH_take (i := 16) (oi := ({ dst := some 69, op := Op.load 53 (Operand.tmp 2), type := 53, pos := "law.go:55", after := #[{ on := 15, ground := Ground.guard }], guard := some (15, true) })) (v := (.agg #[.int .i64 a0, .int .i64 a1, .int .i64 a2])) rfl (by kernel_rfl) (by kernel_rfl) (by kernel_rfl) (fun _ _ _ h => h) (Or.inl ⟨by rfl, ?_⟩) (by assumption) ?_
            · (intro w hSw; (try dsimp only at hSw); go_simp)
            try simp only [Act.put, List.setIfInBounds_toArray, List.set_cons_zero, List.set_cons_succ]
            refine wpAnyH_take (i := 17) (oi := ({ dst := some 70, op := Op.load 53 (Operand.tmp 3), type := 53, pos := "law.go:55", after := #[{ on := 15, ground := Ground.guard }], guard := some (15, true) })) (v := (.agg #[.int .i64 b0, .int .i64 b1, .int .i64 b2])) rfl (by kernel_rfl) (by kernel_rfl) (by kernel_rfl) (fun _ _ _ h => h) (Or.inl ⟨by rfl, ?_⟩) (by assumption) ?_
            · (intro w hSw; (try dsimp only at hSw); go_simp)
            try simp only [Act.put, List.setIfInBounds_toArray, List.set_cons_zero, List.set_cons_succ]
            refine wpAnyH_take (i := 18) (oi := ({ dst := some 71, op := Op.binOp BinOp.eql 53 (Operand.tmp 69) (Operand.tmp 70) 53, type := 4, pos := "law.go:55", after := #[{ on := 16, ground := Ground.data }, { on := 17, ground := Ground.data }, { on := 15, ground := Ground.guard }], guard := some (15, true) })) (v := (.bool false)) rfl (by kernel_rfl) (by kernel_rfl) (by kernel_rfl) (fun _ _ _ h => h) (Or.inl ⟨by rfl, ?_⟩) (by assumption) ?_
            · (intro w hSw; (try dsimp only at hSw); go_simp)
            try simp only [Act.put, List.setIfInBounds_toArray, List.set_cons_zero, List.set_cons_succ]
            refine wpAnyH_take (i := 19) (oi := ({ dst := some 72, op := Op.move (Operand.tmp 71), type := 4, pos := "law.go:55", after := #[{ on := 18, ground := Ground.data }, { on := 15, ground := Ground.chain }, { on := 15, ground := Ground.guard }], guard := some (15, true) })) (v := (.bool false)) rfl (by kernel_rfl) (by kernel_rfl) (by kernel_rfl) (fun _ _ _ h => h) (Or.inl ⟨by rfl, ?_⟩) (by assumption) ?_
            · (intro w hSw; (try dsimp only at hSw); go_simp)
            try simp only [Act.put, List.setIfInBounds_toArray, List.set_cons_zero, List.set_cons_succ]
            refine wpAnyH_take (i := 20) (oi := ({ dst := some 73, op := Op.load 53 (Operand.tmp 2), type := 53, pos := "law.go:55", after := #[{ on := 19, ground := Ground.guard }], guard := some (19, false) })) (v := (.agg #[.int .i64 a0, .int .i64 a1, .int .i64 a2])) rfl (by kernel_rfl) (by kernel_rfl) (by kernel_rfl) (fun _ _ _ h => h) (Or.inl ⟨by rfl, ?_⟩) (by assumption) ?_
            · (intro w hSw; (try dsimp only at hSw); go_simp)
            try simp only [Act.put, List.setIfInBounds_toArray, List.set_cons_zero, List.set_cons_succ]
            refine wpAnyH_take (i := 21) (oi := ({ dst := some 74, op := Op.load 53 (Operand.tmp 3), type := 53, pos := "law.go:55", after := #[{ on := 19, ground := Ground.guard }], guard := some (19, false) })) (v := (.agg #[.int .i64 b0, .int .i64 b1, .int .i64 b2])) rfl (by kernel_rfl) (by kernel_rfl) (by kernel_rfl) (fun _ _ _ h => h) (Or.inl ⟨by rfl, ?_⟩) (by assumption) ?_
            · (intro w hSw; (try dsimp only at hSw); go_simp)
            try simp only [Act.put, List.setIfInBounds_toArray, List.set_cons_zero, List.set_cons_succ]
            refine wpAnyH_take (i := 23) (oi := ({ dst := some 76, op := Op.load 53 (Operand.tmp 3), type := 53, pos := "law.go:55", after := #[{ on := 19, ground := Ground.guard }], guard := some (19, false) })) (v := (.agg #[.int .i64 b0, .int .i64 b1, .int .i64 b2])) rfl (by kernel_rfl) (by kernel_rfl) (by kernel_rfl) (fun _ _ _ h => h) (Or.inl ⟨by rfl, ?_⟩) (by assumption) ?_
            · (intro w hSw; (try dsimp only at hSw); go_simp)
            try simp only [Act.put, List.setIfInBounds_toArray, List.set_cons_zero, List.set_cons_succ]
            refine wpAnyH_take (i := 24) (oi := ({ dst := some 77, op := Op.load 53 (Operand.tmp 2), type := 53, pos := "law.go:55", after := #[{ on := 19, ground := Ground.guard }], guard := some (19, false) })) (v := (.agg #[.int .i64 a0, .int .i64 a1, .int .i64 a2])) rfl (by kernel_rfl) (by kernel_rfl) (by kernel_rfl) (fun _ _ _ h => h) (Or.inl ⟨by rfl, ?_⟩) (by assumption) ?_
            · (intro w hSw; (try dsimp only at hSw); go_simp)
            try simp only [Act.put, List.setIfInBounds_toArray, List.set_cons_zero, List.set_cons_succ]
            refine wpAnyH_ready (rs := [22]) (by kernel_rfl) (by simp) (AllReadyH.cons (o := ({ dst := some 75, op := Op.call { callee := Callee.value (Operand.func 51), args := #[Operand.tmp 73, Operand.tmp 74], argTypes := #[53, 53] }, type := 4, pos := "law.go:55", after := #[{ on := 20, ground := Ground.data }, { on := 21, ground := Ground.data }, { on := 19, ground := Ground.chain }, { on := 19, ground := Ground.guard }], guard := some (19, false) })) rfl (fun K hK => ?_) AllReadyH.nil)
            go_simp
            refine (HL1.out _).mono ?_
            rintro e wc ⟨rfl, hbq⟩
            replace hw := hw.trans (Below.mono (by exact ⟨hbq.os, hbq.tape, hbq.output, hbq.size, hbq.block⟩) hw.size)
            clear hbq
            go_wp2_with fail
            clear hHeld
            refine hK.out _ _ ⟨keepB hw Ad0 Al, keepB hw Ad1 Al, keepB hw Ad2 Al, keepB hw Bd0 Bl, keepB hw Bd1 Bl, keepB hw Bd2 Bl⟩ (fun hHeld => ?_)
            clear hK K
            try simp only [Act.put, List.setIfInBounds_toArray, List.set_cons_zero, List.set_cons_succ]
            refine wpAnyH_ready (rs := [25]) (by kernel_rfl) (by simp) (AllReadyH.cons (o := ({ dst := some 78, op := Op.call { callee := Callee.value (Operand.func 51), args := #[Operand.tmp 76, Operand.tmp 77], argTypes := #[53, 53] }, type := 4, pos := "law.go:55", after := #[{ on := 23, ground := Ground.data }, { on := 24, ground := Ground.data }, { on := 22, ground := Ground.chain }, { on := 19, ground := Ground.guard }], guard := some (19, false) })) rfl (fun K hK => ?_) AllReadyH.nil)
            go_simp
            refine (HL2.out _).mono ?_
            rintro e wc ⟨rfl, hbq⟩
            replace hw := hw.trans (Below.mono (by exact ⟨hbq.os, hbq.tape, hbq.output, hbq.size, hbq.block⟩) hw.size)
            clear hbq
            go_wp2_with fail
            clear hHeld
            refine hK.out _ _ ⟨keepB hw Ad0 Al, keepB hw Ad1 Al, keepB hw Ad2 Al, keepB hw Bd0 Bl, keepB hw Bd1 Bl, keepB hw Bd2 Bl⟩ (fun hHeld => ?_)
            clear hK K
            try simp only [Act.put, List.setIfInBounds_toArray, List.set_cons_zero, List.set_cons_succ]
            refine wpAnyH_take (i := 26) (oi := ({ dst := some 79, op := Op.binOp BinOp.neq 4 (Operand.tmp 75) (Operand.tmp 78) 4, type := 4, pos := "law.go:55", after := #[{ on := 22, ground := Ground.data }, { on := 25, ground := Ground.data }, { on := 19, ground := Ground.guard }], guard := some (19, false) })) (v := (.bool true)) rfl (by kernel_rfl) (by kernel_rfl) (by kernel_rfl) (fun _ _ _ h => h) (Or.inl ⟨by rfl, ?_⟩) (by assumption) ?_
            · (intro w hSw; (try dsimp only at hSw); go_simp)
            try simp only [Act.put, List.setIfInBounds_toArray, List.set_cons_zero, List.set_cons_succ]
            refine wpAnyH_take (i := 27) (oi := ({ dst := some 80, op := Op.pick (Operand.tmp 72) (Operand.const (Value.bool true)) (Operand.tmp 79), type := 4, pos := "law.go:55", after := #[{ on := 19, ground := Ground.data }, { on := 26, ground := Ground.data }, { on := 15, ground := Ground.guard }], guard := some (15, true) })) (v := (.bool true)) rfl (by kernel_rfl) (by kernel_rfl) (by kernel_rfl) (fun _ _ _ h => h) (Or.inl ⟨by rfl, ?_⟩) (by assumption) ?_
            · (intro w hSw; (try dsimp only at hSw); go_simp)
            try simp only [Act.put, List.setIfInBounds_toArray, List.set_cons_zero, List.set_cons_succ]
            refine wpAnyH_take (i := 28) (oi := ({ dst := some 81, op := Op.pick (Operand.tmp 68) (Operand.tmp 80) (Operand.const (Value.bool false)), type := 4, pos := "law.go:55", after := #[{ on := 15, ground := Ground.data }, { on := 27, ground := Ground.data }], guard := none })) (v := (.bool true)) rfl (by kernel_rfl) (by kernel_rfl) (by kernel_rfl) (fun _ _ _ h => h) (Or.inl ⟨by rfl, ?_⟩) (by assumption) ?_
            · (intro w hSw; (try dsimp only at hSw); go_simp)
            try simp only [Act.put, List.setIfInBounds_toArray, List.set_cons_zero, List.set_cons_succ]
            refine wpAnyH_take (i := 29) (oi := ({ dst := some 82, op := Op.move (Operand.tmp 81), type := 4, pos := "law.go:55", after := #[{ on := 28, ground := Ground.data }, { on := 25, ground := Ground.chain }], guard := none })) (v := (.bool true)) rfl (by kernel_rfl) (by kernel_rfl) (by kernel_rfl) (fun _ _ _ h => h) (Or.inl ⟨by rfl, ?_⟩) (by assumption) ?_
            · (intro w hSw; (try dsimp only at hSw); go_simp)
            try simp only [Act.put, List.setIfInBounds_toArray, List.set_cons_zero, List.set_cons_succ]
            refine wpAnyH_take (i := 30) (oi := ({ dst := some 83, op := Op.load 53 (Operand.tmp 2), type := 53, pos := "law.go:55", after := #[{ on := 29, ground := Ground.guard }], guard := some (29, true) })) (v := (.agg #[.int .i64 a0, .int .i64 a1, .int .i64 a2])) rfl (by kernel_rfl) (by kernel_rfl) (by kernel_rfl) (fun _ _ _ h => h) (Or.inl ⟨by rfl, ?_⟩) (by assumption) ?_
            · (intro w hSw; (try dsimp only at hSw); go_simp)
            try simp only [Act.put, List.setIfInBounds_toArray, List.set_cons_zero, List.set_cons_succ]
            refine wpAnyH_take (i := 31) (oi := ({ dst := some 84, op := Op.load 53 (Operand.tmp 2), type := 53, pos := "law.go:55", after := #[{ on := 29, ground := Ground.guard }], guard := some (29, true) })) (v := (.agg #[.int .i64 a0, .int .i64 a1, .int .i64 a2])) rfl (by kernel_rfl) (by kernel_rfl) (by kernel_rfl) (fun _ _ _ h => h) (Or.inl ⟨by rfl, ?_⟩) (by assumption) ?_
            · (intro w hSw; (try dsimp only at hSw); go_simp)
            try simp only [Act.put, List.setIfInBounds_toArray, List.set_cons_zero, List.set_cons_succ]
            refine wpAnyH_ready (rs := [32]) (by kernel_rfl) (by simp) (AllReadyH.cons (o := ({ dst := some 85, op := Op.call { callee := Callee.value (Operand.func 51), args := #[Operand.tmp 83, Operand.tmp 84], argTypes := #[53, 53] }, type := 4, pos := "law.go:55", after := #[{ on := 30, ground := Ground.data }, { on := 31, ground := Ground.data }, { on := 29, ground := Ground.chain }, { on := 29, ground := Ground.guard }], guard := some (29, true) })) rfl (fun K hK => ?_) AllReadyH.nil)
            go_simp
            refine (HLS.out _).mono ?_
            rintro e wc ⟨rfl, hbq⟩
            replace hw := hw.trans (Below.mono (by exact ⟨hbq.os, hbq.tape, hbq.output, hbq.size, hbq.block⟩) hw.size)
            clear hbq
            go_wp2_with fail
            clear hHeld
            refine hK.out _ _ ⟨keepB hw Ad0 Al, keepB hw Ad1 Al, keepB hw Ad2 Al, keepB hw Bd0 Bl, keepB hw Bd1 Bl, keepB hw Bd2 Bl⟩ (fun hHeld => ?_)
            clear hK K
            try simp only [Act.put, List.setIfInBounds_toArray, List.set_cons_zero, List.set_cons_succ]
            refine wpAnyH_take (i := 33) (oi := ({ dst := some 86, op := Op.unOp UnOp.not 4 (Operand.tmp 85), type := 4, pos := "law.go:55", after := #[{ on := 32, ground := Ground.data }, { on := 29, ground := Ground.guard }], guard := some (29, true) })) (v := (.bool true)) rfl (by kernel_rfl) (by kernel_rfl) (by kernel_rfl) (fun _ _ _ h => h) (Or.inl ⟨by rfl, ?_⟩) (by assumption) ?_
            · (intro w hSw; (try dsimp only at hSw); go_simp)
            try simp only [Act.put, List.setIfInBounds_toArray, List.set_cons_zero, List.set_cons_succ]
            refine wpAnyH_take (i := 34) (oi := ({ dst := some 87, op := Op.pick (Operand.tmp 82) (Operand.tmp 86) (Operand.const (Value.bool false)), type := 4, pos := "law.go:55", after := #[{ on := 29, ground := Ground.data }, { on := 33, ground := Ground.data }], guard := none })) (v := (.bool true)) rfl (by kernel_rfl) (by kernel_rfl) (by kernel_rfl) (fun _ _ _ h => h) (Or.inl ⟨by rfl, ?_⟩) (by assumption) ?_
            · (intro w hSw; (try dsimp only at hSw); go_simp)
            try simp only [Act.put, List.setIfInBounds_toArray, List.set_cons_zero, List.set_cons_succ]
            refine wpAnyH_take (i := 35) (oi := ({ dst := some 88, op := Op.move (Operand.tmp 87), type := 4, pos := "law.go:55", after := #[{ on := 34, ground := Ground.data }, { on := 32, ground := Ground.chain }], guard := none })) (v := (.bool true)) rfl (by kernel_rfl) (by kernel_rfl) (by kernel_rfl) (fun _ _ _ h => h) (Or.inl ⟨by rfl, ?_⟩) (by assumption) ?_
            · (intro w hSw; (try dsimp only at hSw); go_simp)
            try simp only [Act.put, List.setIfInBounds_toArray, List.set_cons_zero, List.set_cons_succ]
            refine wpAnyH_ready (rs := [36]) (by kernel_rfl) (by simp) (AllReadyH.cons (o := ({ dst := some 89, op := Op.call { callee := Callee.value (Operand.func 55), args := #[], argTypes := #[] }, type := 4, pos := "law.go:55", after := #[{ on := 35, ground := Ground.chain }, { on := 35, ground := Ground.guard }], guard := some (35, true) })) rfl (fun K hK => ?_) AllReadyH.nil)
            go_simp
            refine (AW.out _ (LL.out.below (by exact ⟨hw.os, hw.tape, hw.output, hw.size, hw.block⟩))).mono ?_
            rintro e wc ⟨rfl, hbq⟩
            replace hw := hw.trans (Below.mono (by exact ⟨hbq.os, hbq.tape, hbq.output, hbq.size, hbq.block⟩) hw.size)
            clear hbq
            go_wp2_with fail
            clear hHeld
            refine hK.out _ _ ⟨keepB hw Ad0 Al, keepB hw Ad1 Al, keepB hw Ad2 Al, keepB hw Bd0 Bl, keepB hw Bd1 Bl, keepB hw Bd2 Bl⟩ (fun hHeld => ?_)
            clear hK K
            try simp only [Act.put, List.setIfInBounds_toArray, List.set_cons_zero, List.set_cons_succ]
            refine wpAnyH_take (i := 37) (oi := ({ dst := some 90, op := Op.pick (Operand.tmp 88) (Operand.tmp 89) (Operand.const (Value.bool false)), type := 4, pos := "law.go:55", after := #[{ on := 35, ground := Ground.data }, { on := 36, ground := Ground.data }], guard := none })) (v := (.bool true)) rfl (by kernel_rfl) (by kernel_rfl) (by kernel_rfl) (fun _ _ _ h => h) (Or.inl ⟨by rfl, ?_⟩) (by assumption) ?_
            · (intro w hSw; (try dsimp only at hSw); go_simp)
            try simp only [Act.put, List.setIfInBounds_toArray, List.set_cons_zero, List.set_cons_succ]
            refine wpAnyH_take (i := 38) (oi := ({ dst := some 4, op := Op.assign (Operand.tmp 90), type := 4, pos := "law.go:55", after := #[{ on := 37, ground := Ground.data }, { on := 36, ground := Ground.chain }, { on := 0, ground := Ground.phase }, { on := 1, ground := Ground.phase }, { on := 2, ground := Ground.phase }, { on := 3, ground := Ground.phase }, { on := 4, ground := Ground.phase }, { on := 5, ground := Ground.phase }, { on := 6, ground := Ground.phase }, { on := 7, ground := Ground.phase }, { on := 8, ground := Ground.phase }, { on := 9, ground := Ground.phase }, { on := 10, ground := Ground.phase }, { on := 11, ground := Ground.phase }, { on := 12, ground := Ground.phase }, { on := 13, ground := Ground.phase }, { on := 14, ground := Ground.phase }, { on := 15, ground := Ground.phase }, { on := 16, ground := Ground.phase }, { on := 17, ground := Ground.phase }, { on := 18, ground := Ground.phase }, { on := 19, ground := Ground.phase }, { on := 20, ground := Ground.phase }, { on := 21, ground := Ground.phase }, { on := 22, ground := Ground.phase }, { on := 23, ground := Ground.phase }, { on := 24, ground := Ground.phase }, { on := 25, ground := Ground.phase }, { on := 26, ground := Ground.phase }, { on := 27, ground := Ground.phase }, { on := 28, ground := Ground.phase }, { on := 29, ground := Ground.phase }, { on := 30, ground := Ground.phase }, { on := 31, ground := Ground.phase }, { on := 32, ground := Ground.phase }, { on := 33, ground := Ground.phase }, { on := 34, ground := Ground.phase }, { on := 35, ground := Ground.phase }, { on := 36, ground := Ground.phase }, { on := 37, ground := Ground.phase }], guard := none })) (v := (.bool true)) rfl (by kernel_rfl) (by kernel_rfl) (by kernel_rfl) (fun _ _ _ h => h) (Or.inl ⟨by rfl, ?_⟩) (by assumption) ?_
            · (intro w hSw; (try dsimp only at hSw); go_simp)
            try simp only [Act.put, List.setIfInBounds_toArray, List.set_cons_zero, List.set_cons_succ]
            refine wpAnyH_done (by kernel_rfl) ?_ _
            clear hHeld
            have KL9 := Lib.hid (KL.out.trans (hw.mono (by have := KL.out.size; have := HN.out; omega)))
            go_wp2_with fail
            go_ret
            exact ⟨rfl, KL9.out⟩
          | true =>
            obtain rfl : f = r := HF.out (by first | rfl | trivial) (by first | rfl | trivial)
            have Ad0 := KA.out.cell (i := 0) rfl
            have Ad1 := KA.out.cell (i := 1) rfl
            have Ad2 := KA.out.cell (i := 2) rfl
            have Bd0 := KB.out.cell (i := 0) rfl
            have Bd1 := KB.out.cell (i := 1) rfl
            have Bd2 := KB.out.cell (i := 2) rfl
            have Al := KA.out.lt
            have Bl := KB.out.lt
            have hw := below_self KL.out
            refine wp_region_held_drew (S := (fun w' => w'.cell? ⟨n, 0, none⟩ = some (.int .i64 a0) ∧ w'.cell? ⟨n, 1, none⟩ = some (.int .i64 a1) ∧ w'.cell? ⟨n, 2, none⟩ = some (.int .i64 a2) ∧ w'.cell? ⟨(n + 1), 0, none⟩ = some (.int .i64 b0) ∧ w'.cell? ⟨(n + 1), 1, none⟩ = some (.int .i64 b1) ∧ w'.cell? ⟨(n + 1), 2, none⟩ = some (.int .i64 b2))) (by kernel_rfl) ⟨KA.out.drew.cell (i := 0) rfl, KA.out.drew.cell (i := 1) rfl, KA.out.drew.cell (i := 2) rfl, KB.out.drew.cell (i := 0) rfl, KB.out.drew.cell (i := 1) rfl, KB.out.drew.cell (i := 2) rfl⟩ (fun hHeld => ?_)
            refine wpAnyH_take (i := 0) (oi := ({ dst := some 53, op := Op.load 53 (Operand.tmp 2), type := 53, pos := "law.go:55", after := #[], guard := none })) (v := (.agg #[.int .i64 a0, .int .i64 a1, .int .i64 a2])) rfl (by kernel_rfl) (by kernel_rfl) (by kernel_rfl) (fun _ _ _ h => h) (Or.inl ⟨by rfl, ?_⟩) (by assumption) ?_
            · (intro w hSw; (try dsimp only at hSw); go_simp)
            try simp only [Act.put, List.setIfInBounds_toArray, List.set_cons_zero, List.set_cons_succ]
            refine wpAnyH_ready (rs := [1]) (by kernel_rfl) (by simp) (AllReadyH.cons (o := ({ dst := some 54, op := Op.call { callee := Callee.value (Operand.func 47), args := #[Operand.tmp 53], argTypes := #[53] }, type := 4, pos := "law.go:55", after := #[{ on := 0, ground := Ground.data }], guard := none })) rfl (fun K hK => ?_) AllReadyH.nil)
            go_simp
            refine (HRA.out _).mono ?_
            rintro e wc ⟨rfl, hbq⟩
            replace hw := hw.trans (Below.mono (by exact ⟨hbq.os, hbq.tape, hbq.output, hbq.size, hbq.block⟩) hw.size)
            clear hbq
            go_wp2_with fail
            clear hHeld
            refine hK.out _ _ ⟨keepB hw Ad0 Al, keepB hw Ad1 Al, keepB hw Ad2 Al, keepB hw Bd0 Bl, keepB hw Bd1 Bl, keepB hw Bd2 Bl⟩ (fun hHeld => ?_)
            clear hK K
            try simp only [Act.put, List.setIfInBounds_toArray, List.set_cons_zero, List.set_cons_succ]
            refine wpAnyH_take (i := 2) (oi := ({ dst := some 55, op := Op.unOp UnOp.not 4 (Operand.tmp 54), type := 4, pos := "law.go:55", after := #[{ on := 1, ground := Ground.data }], guard := none })) (v := (.bool false)) rfl (by kernel_rfl) (by kernel_rfl) (by kernel_rfl) (fun _ _ _ h => h) (Or.inl ⟨by rfl, ?_⟩) (by assumption) ?_
            · (intro w hSw; (try dsimp only at hSw); go_simp)
            try simp only [Act.put, List.setIfInBounds_toArray, List.set_cons_zero, List.set_cons_succ]
            refine wpAnyH_take (i := 3) (oi := ({ dst := some 56, op := Op.move (Operand.tmp 55), type := 4, pos := "law.go:55", after := #[{ on := 2, ground := Ground.data }, { on := 1, ground := Ground.chain }], guard := none })) (v := (.bool false)) rfl (by kernel_rfl) (by kernel_rfl) (by kernel_rfl) (fun _ _ _ h => h) (Or.inl ⟨by rfl, ?_⟩) (by assumption) ?_
            · (intro w hSw; (try dsimp only at hSw); go_simp)
            try simp only [Act.put, List.setIfInBounds_toArray, List.set_cons_zero, List.set_cons_succ]
            refine wpAnyH_take (i := 4) (oi := ({ dst := some 57, op := Op.load 53 (Operand.tmp 3), type := 53, pos := "law.go:55", after := #[{ on := 3, ground := Ground.guard }], guard := some (3, false) })) (v := (.agg #[.int .i64 b0, .int .i64 b1, .int .i64 b2])) rfl (by kernel_rfl) (by kernel_rfl) (by kernel_rfl) (fun _ _ _ h => h) (Or.inl ⟨by rfl, ?_⟩) (by assumption) ?_
            · (intro w hSw; (try dsimp only at hSw); go_simp)
            try simp only [Act.put, List.setIfInBounds_toArray, List.set_cons_zero, List.set_cons_succ]
            refine wpAnyH_ready (rs := [5]) (by kernel_rfl) (by simp) (AllReadyH.cons (o := ({ dst := some 58, op := Op.call { callee := Callee.value (Operand.func 47), args := #[Operand.tmp 57], argTypes := #[53] }, type := 4, pos := "law.go:55", after := #[{ on := 4, ground := Ground.data }, { on := 3, ground := Ground.chain }, { on := 3, ground := Ground.guard }], guard := some (3, false) })) rfl (fun K hK => ?_) AllReadyH.nil)
            go_simp
            refine (HRB.out _).mono ?_
            rintro e wc ⟨rfl, hbq⟩
            replace hw := hw.trans (Below.mono (by exact ⟨hbq.os, hbq.tape, hbq.output, hbq.size, hbq.block⟩) hw.size)
            clear hbq
            go_wp2_with fail
            clear hHeld
            refine hK.out _ _ ⟨keepB hw Ad0 Al, keepB hw Ad1 Al, keepB hw Ad2 Al, keepB hw Bd0 Bl, keepB hw Bd1 Bl, keepB hw Bd2 Bl⟩ (fun hHeld => ?_)
            clear hK K
            try simp only [Act.put, List.setIfInBounds_toArray, List.set_cons_zero, List.set_cons_succ]
            refine wpAnyH_take (i := 6) (oi := ({ dst := some 59, op := Op.unOp UnOp.not 4 (Operand.tmp 58), type := 4, pos := "law.go:55", after := #[{ on := 5, ground := Ground.data }, { on := 3, ground := Ground.guard }], guard := some (3, false) })) (v := (.bool false)) rfl (by kernel_rfl) (by kernel_rfl) (by kernel_rfl) (fun _ _ _ h => h) (Or.inl ⟨by rfl, ?_⟩) (by assumption) ?_
            · (intro w hSw; (try dsimp only at hSw); go_simp)
            try simp only [Act.put, List.setIfInBounds_toArray, List.set_cons_zero, List.set_cons_succ]
            refine wpAnyH_take (i := 7) (oi := ({ dst := some 60, op := Op.pick (Operand.tmp 56) (Operand.const (Value.bool true)) (Operand.tmp 59), type := 4, pos := "law.go:55", after := #[{ on := 3, ground := Ground.data }, { on := 6, ground := Ground.data }], guard := none })) (v := (.bool false)) rfl (by kernel_rfl) (by kernel_rfl) (by kernel_rfl) (fun _ _ _ h => h) (Or.inl ⟨by rfl, ?_⟩) (by assumption) ?_
            · (intro w hSw; (try dsimp only at hSw); go_simp)
            try simp only [Act.put, List.setIfInBounds_toArray, List.set_cons_zero, List.set_cons_succ]
            refine wpAnyH_take (i := 8) (oi := ({ dst := some 61, op := Op.move (Operand.tmp 60), type := 4, pos := "law.go:55", after := #[{ on := 7, ground := Ground.data }, { on := 5, ground := Ground.chain }], guard := none })) (v := (.bool false)) rfl (by kernel_rfl) (by kernel_rfl) (by kernel_rfl) (fun _ _ _ h => h) (Or.inl ⟨by rfl, ?_⟩) (by assumption) ?_
            · (intro w hSw; (try dsimp only at hSw); go_simp)
            try simp only [Act.put, List.setIfInBounds_toArray, List.set_cons_zero, List.set_cons_succ]
            refine wpAnyH_take (i := 9) (oi := ({ dst := some 62, op := Op.load 53 (Operand.tmp 3), type := 53, pos := "law.go:55", after := #[{ on := 8, ground := Ground.guard }], guard := some (8, false) })) (v := (.agg #[.int .i64 b0, .int .i64 b1, .int .i64 b2])) rfl (by kernel_rfl) (by kernel_rfl) (by kernel_rfl) (fun _ _ _ h => h) (Or.inl ⟨by rfl, ?_⟩) (by assumption) ?_
            · (intro w hSw; (try dsimp only at hSw); go_simp)
            try simp only [Act.put, List.setIfInBounds_toArray, List.set_cons_zero, List.set_cons_succ]
            refine wpAnyH_take (i := 10) (oi := ({ dst := some 63, op := Op.load 53 (Operand.tmp 2), type := 53, pos := "law.go:55", after := #[{ on := 8, ground := Ground.guard }], guard := some (8, false) })) (v := (.agg #[.int .i64 a0, .int .i64 a1, .int .i64 a2])) rfl (by kernel_rfl) (by kernel_rfl) (by kernel_rfl) (fun _ _ _ h => h) (Or.inl ⟨by rfl, ?_⟩) (by assumption) ?_
            · (intro w hSw; (try dsimp only at hSw); go_simp)
            try simp only [Act.put, List.setIfInBounds_toArray, List.set_cons_zero, List.set_cons_succ]
            refine wpAnyH_take (i := 12) (oi := ({ dst := some 65, op := Op.move (Operand.tmp 10), type := 4, pos := "law.go:55", after := #[{ on := 8, ground := Ground.guard }], guard := some (8, false) })) (v := (.bool f)) rfl (by kernel_rfl) (by kernel_rfl) (by kernel_rfl) (fun _ _ _ h => h) (Or.inl ⟨by rfl, ?_⟩) (by assumption) ?_
            · (intro w hSw; (try dsimp only at hSw); go_simp)
            try simp only [Act.put, List.setIfInBounds_toArray, List.set_cons_zero, List.set_cons_succ]
            refine wpAnyH_ready (rs := [11]) (by kernel_rfl) (by simp) (AllReadyH.cons (o := ({ dst := some 64, op := Op.call { callee := Callee.value (Operand.func 49), args := #[Operand.tmp 62, Operand.tmp 63], argTypes := #[53, 53] }, type := 4, pos := "law.go:55", after := #[{ on := 9, ground := Ground.data }, { on := 10, ground := Ground.data }, { on := 8, ground := Ground.chain }, { on := 8, ground := Ground.guard }], guard := some (8, false) })) rfl (fun K hK => ?_) AllReadyH.nil)
            go_simp
            refine (HFIT.out _).mono ?_
            rintro e wc ⟨rfl, hbq⟩
            replace hw := hw.trans (Below.mono (by exact ⟨hbq.os, hbq.tape, hbq.output, hbq.size, hbq.block⟩) hw.size)
            clear hbq
            go_wp2_with fail
            clear hHeld
            refine hK.out _ _ ⟨keepB hw Ad0 Al, keepB hw Ad1 Al, keepB hw Ad2 Al, keepB hw Bd0 Bl, keepB hw Bd1 Bl, keepB hw Bd2 Bl⟩ (fun hHeld => ?_)
            clear hK K
            try simp only [Act.put, List.setIfInBounds_toArray, List.set_cons_zero, List.set_cons_succ]
            refine wpAnyH_take (i := 13) (oi := ({ dst := some 66, op := Op.binOp BinOp.eql 4 (Operand.tmp 64) (Operand.tmp 65) 4, type := 4, pos := "law.go:55", after := #[{ on := 11, ground := Ground.data }, { on := 12, ground := Ground.data }, { on := 8, ground := Ground.guard }], guard := some (8, false) })) (v := (.bool true)) rfl (by kernel_rfl) (by kernel_rfl) (by kernel_rfl) (fun _ _ _ h => h) (Or.inl ⟨by rfl, ?_⟩) (by assumption) ?_
            · (intro w hSw; (try dsimp only at hSw); go_simp)
            try simp only [Act.put, List.setIfInBounds_toArray, List.set_cons_zero, List.set_cons_succ]
            refine wpAnyH_take (i := 14) (oi := ({ dst := some 67, op := Op.pick (Operand.tmp 61) (Operand.const (Value.bool true)) (Operand.tmp 66), type := 4, pos := "law.go:55", after := #[{ on := 8, ground := Ground.data }, { on := 13, ground := Ground.data }], guard := none })) (v := (.bool true)) rfl (by kernel_rfl) (by kernel_rfl) (by kernel_rfl) (fun _ _ _ h => h) (Or.inl ⟨by rfl, ?_⟩) (by assumption) ?_
            · (intro w hSw; (try dsimp only at hSw); go_simp)
            try simp only [Act.put, List.setIfInBounds_toArray, List.set_cons_zero, List.set_cons_succ]
            refine wpAnyH_take (i := 15) (oi := ({ dst := some 68, op := Op.move (Operand.tmp 67), type := 4, pos := "law.go:55", after := #[{ on := 14, ground := Ground.data }, { on := 11, ground := Ground.chain }], guard := none })) (v := (.bool true)) rfl (by kernel_rfl) (by kernel_rfl) (by kernel_rfl) (fun _ _ _ h => h) (Or.inl ⟨by rfl, ?_⟩) (by assumption) ?_
            · (intro w hSw; (try dsimp only at hSw); go_simp)
            try simp only [Act.put, List.setIfInBounds_toArray, List.set_cons_zero, List.set_cons_succ]
            refine wpAnyH_take (i := 16) (oi := ({ dst := some 69, op := Op.load 53 (Operand.tmp 2), type := 53, pos := "law.go:55", after := #[{ on := 15, ground := Ground.guard }], guard := some (15, true) })) (v := (.agg #[.int .i64 a0, .int .i64 a1, .int .i64 a2])) rfl (by kernel_rfl) (by kernel_rfl) (by kernel_rfl) (fun _ _ _ h => h) (Or.inl ⟨by rfl, ?_⟩) (by assumption) ?_
            · (intro w hSw; (try dsimp only at hSw); go_simp)
            try simp only [Act.put, List.setIfInBounds_toArray, List.set_cons_zero, List.set_cons_succ]
            refine wpAnyH_take (i := 17) (oi := ({ dst := some 70, op := Op.load 53 (Operand.tmp 3), type := 53, pos := "law.go:55", after := #[{ on := 15, ground := Ground.guard }], guard := some (15, true) })) (v := (.agg #[.int .i64 b0, .int .i64 b1, .int .i64 b2])) rfl (by kernel_rfl) (by kernel_rfl) (by kernel_rfl) (fun _ _ _ h => h) (Or.inl ⟨by rfl, ?_⟩) (by assumption) ?_
            · (intro w hSw; (try dsimp only at hSw); go_simp)
            try simp only [Act.put, List.setIfInBounds_toArray, List.set_cons_zero, List.set_cons_succ]
            refine wpAnyH_take (i := 18) (oi := ({ dst := some 71, op := Op.binOp BinOp.eql 53 (Operand.tmp 69) (Operand.tmp 70) 53, type := 4, pos := "law.go:55", after := #[{ on := 16, ground := Ground.data }, { on := 17, ground := Ground.data }, { on := 15, ground := Ground.guard }], guard := some (15, true) })) (v := (.bool false)) rfl (by kernel_rfl) (by kernel_rfl) (by kernel_rfl) (fun _ _ _ h => h) (Or.inl ⟨by rfl, ?_⟩) (by assumption) ?_
            · (intro w hSw; (try dsimp only at hSw); go_simp)
            try simp only [Act.put, List.setIfInBounds_toArray, List.set_cons_zero, List.set_cons_succ]
            refine wpAnyH_take (i := 19) (oi := ({ dst := some 72, op := Op.move (Operand.tmp 71), type := 4, pos := "law.go:55", after := #[{ on := 18, ground := Ground.data }, { on := 15, ground := Ground.chain }, { on := 15, ground := Ground.guard }], guard := some (15, true) })) (v := (.bool false)) rfl (by kernel_rfl) (by kernel_rfl) (by kernel_rfl) (fun _ _ _ h => h) (Or.inl ⟨by rfl, ?_⟩) (by assumption) ?_
            · (intro w hSw; (try dsimp only at hSw); go_simp)
            try simp only [Act.put, List.setIfInBounds_toArray, List.set_cons_zero, List.set_cons_succ]
            refine wpAnyH_take (i := 20) (oi := ({ dst := some 73, op := Op.load 53 (Operand.tmp 2), type := 53, pos := "law.go:55", after := #[{ on := 19, ground := Ground.guard }], guard := some (19, false) })) (v := (.agg #[.int .i64 a0, .int .i64 a1, .int .i64 a2])) rfl (by kernel_rfl) (by kernel_rfl) (by kernel_rfl) (fun _ _ _ h => h) (Or.inl ⟨by rfl, ?_⟩) (by assumption) ?_
            · (intro w hSw; (try dsimp only at hSw); go_simp)
            try simp only [Act.put, List.setIfInBounds_toArray, List.set_cons_zero, List.set_cons_succ]
            refine wpAnyH_take (i := 21) (oi := ({ dst := some 74, op := Op.load 53 (Operand.tmp 3), type := 53, pos := "law.go:55", after := #[{ on := 19, ground := Ground.guard }], guard := some (19, false) })) (v := (.agg #[.int .i64 b0, .int .i64 b1, .int .i64 b2])) rfl (by kernel_rfl) (by kernel_rfl) (by kernel_rfl) (fun _ _ _ h => h) (Or.inl ⟨by rfl, ?_⟩) (by assumption) ?_
            · (intro w hSw; (try dsimp only at hSw); go_simp)
            try simp only [Act.put, List.setIfInBounds_toArray, List.set_cons_zero, List.set_cons_succ]
            refine wpAnyH_take (i := 23) (oi := ({ dst := some 76, op := Op.load 53 (Operand.tmp 3), type := 53, pos := "law.go:55", after := #[{ on := 19, ground := Ground.guard }], guard := some (19, false) })) (v := (.agg #[.int .i64 b0, .int .i64 b1, .int .i64 b2])) rfl (by kernel_rfl) (by kernel_rfl) (by kernel_rfl) (fun _ _ _ h => h) (Or.inl ⟨by rfl, ?_⟩) (by assumption) ?_
            · (intro w hSw; (try dsimp only at hSw); go_simp)
            try simp only [Act.put, List.setIfInBounds_toArray, List.set_cons_zero, List.set_cons_succ]
            refine wpAnyH_take (i := 24) (oi := ({ dst := some 77, op := Op.load 53 (Operand.tmp 2), type := 53, pos := "law.go:55", after := #[{ on := 19, ground := Ground.guard }], guard := some (19, false) })) (v := (.agg #[.int .i64 a0, .int .i64 a1, .int .i64 a2])) rfl (by kernel_rfl) (by kernel_rfl) (by kernel_rfl) (fun _ _ _ h => h) (Or.inl ⟨by rfl, ?_⟩) (by assumption) ?_
            · (intro w hSw; (try dsimp only at hSw); go_simp)
            try simp only [Act.put, List.setIfInBounds_toArray, List.set_cons_zero, List.set_cons_succ]
            refine wpAnyH_ready (rs := [22]) (by kernel_rfl) (by simp) (AllReadyH.cons (o := ({ dst := some 75, op := Op.call { callee := Callee.value (Operand.func 51), args := #[Operand.tmp 73, Operand.tmp 74], argTypes := #[53, 53] }, type := 4, pos := "law.go:55", after := #[{ on := 20, ground := Ground.data }, { on := 21, ground := Ground.data }, { on := 19, ground := Ground.chain }, { on := 19, ground := Ground.guard }], guard := some (19, false) })) rfl (fun K hK => ?_) AllReadyH.nil)
            go_simp
            refine (HL1.out _).mono ?_
            rintro e wc ⟨rfl, hbq⟩
            replace hw := hw.trans (Below.mono (by exact ⟨hbq.os, hbq.tape, hbq.output, hbq.size, hbq.block⟩) hw.size)
            clear hbq
            go_wp2_with fail
            clear hHeld
            refine hK.out _ _ ⟨keepB hw Ad0 Al, keepB hw Ad1 Al, keepB hw Ad2 Al, keepB hw Bd0 Bl, keepB hw Bd1 Bl, keepB hw Bd2 Bl⟩ (fun hHeld => ?_)
            clear hK K
            try simp only [Act.put, List.setIfInBounds_toArray, List.set_cons_zero, List.set_cons_succ]
            refine wpAnyH_ready (rs := [25]) (by kernel_rfl) (by simp) (AllReadyH.cons (o := ({ dst := some 78, op := Op.call { callee := Callee.value (Operand.func 51), args := #[Operand.tmp 76, Operand.tmp 77], argTypes := #[53, 53] }, type := 4, pos := "law.go:55", after := #[{ on := 23, ground := Ground.data }, { on := 24, ground := Ground.data }, { on := 22, ground := Ground.chain }, { on := 19, ground := Ground.guard }], guard := some (19, false) })) rfl (fun K hK => ?_) AllReadyH.nil)
            go_simp
            refine (HL2.out _).mono ?_
            rintro e wc ⟨rfl, hbq⟩
            replace hw := hw.trans (Below.mono (by exact ⟨hbq.os, hbq.tape, hbq.output, hbq.size, hbq.block⟩) hw.size)
            clear hbq
            go_wp2_with fail
            clear hHeld
            refine hK.out _ _ ⟨keepB hw Ad0 Al, keepB hw Ad1 Al, keepB hw Ad2 Al, keepB hw Bd0 Bl, keepB hw Bd1 Bl, keepB hw Bd2 Bl⟩ (fun hHeld => ?_)
            clear hK K
            try simp only [Act.put, List.setIfInBounds_toArray, List.set_cons_zero, List.set_cons_succ]
            refine wpAnyH_take (i := 26) (oi := ({ dst := some 79, op := Op.binOp BinOp.neq 4 (Operand.tmp 75) (Operand.tmp 78) 4, type := 4, pos := "law.go:55", after := #[{ on := 22, ground := Ground.data }, { on := 25, ground := Ground.data }, { on := 19, ground := Ground.guard }], guard := some (19, false) })) (v := (.bool true)) rfl (by kernel_rfl) (by kernel_rfl) (by kernel_rfl) (fun _ _ _ h => h) (Or.inl ⟨by rfl, ?_⟩) (by assumption) ?_
            · (intro w hSw; (try dsimp only at hSw); go_simp)
            try simp only [Act.put, List.setIfInBounds_toArray, List.set_cons_zero, List.set_cons_succ]
            refine wpAnyH_take (i := 27) (oi := ({ dst := some 80, op := Op.pick (Operand.tmp 72) (Operand.const (Value.bool true)) (Operand.tmp 79), type := 4, pos := "law.go:55", after := #[{ on := 19, ground := Ground.data }, { on := 26, ground := Ground.data }, { on := 15, ground := Ground.guard }], guard := some (15, true) })) (v := (.bool true)) rfl (by kernel_rfl) (by kernel_rfl) (by kernel_rfl) (fun _ _ _ h => h) (Or.inl ⟨by rfl, ?_⟩) (by assumption) ?_
            · (intro w hSw; (try dsimp only at hSw); go_simp)
            try simp only [Act.put, List.setIfInBounds_toArray, List.set_cons_zero, List.set_cons_succ]
            refine wpAnyH_take (i := 28) (oi := ({ dst := some 81, op := Op.pick (Operand.tmp 68) (Operand.tmp 80) (Operand.const (Value.bool false)), type := 4, pos := "law.go:55", after := #[{ on := 15, ground := Ground.data }, { on := 27, ground := Ground.data }], guard := none })) (v := (.bool true)) rfl (by kernel_rfl) (by kernel_rfl) (by kernel_rfl) (fun _ _ _ h => h) (Or.inl ⟨by rfl, ?_⟩) (by assumption) ?_
            · (intro w hSw; (try dsimp only at hSw); go_simp)
            try simp only [Act.put, List.setIfInBounds_toArray, List.set_cons_zero, List.set_cons_succ]
            refine wpAnyH_take (i := 29) (oi := ({ dst := some 82, op := Op.move (Operand.tmp 81), type := 4, pos := "law.go:55", after := #[{ on := 28, ground := Ground.data }, { on := 25, ground := Ground.chain }], guard := none })) (v := (.bool true)) rfl (by kernel_rfl) (by kernel_rfl) (by kernel_rfl) (fun _ _ _ h => h) (Or.inl ⟨by rfl, ?_⟩) (by assumption) ?_
            · (intro w hSw; (try dsimp only at hSw); go_simp)
            try simp only [Act.put, List.setIfInBounds_toArray, List.set_cons_zero, List.set_cons_succ]
            refine wpAnyH_take (i := 30) (oi := ({ dst := some 83, op := Op.load 53 (Operand.tmp 2), type := 53, pos := "law.go:55", after := #[{ on := 29, ground := Ground.guard }], guard := some (29, true) })) (v := (.agg #[.int .i64 a0, .int .i64 a1, .int .i64 a2])) rfl (by kernel_rfl) (by kernel_rfl) (by kernel_rfl) (fun _ _ _ h => h) (Or.inl ⟨by rfl, ?_⟩) (by assumption) ?_
            · (intro w hSw; (try dsimp only at hSw); go_simp)
            try simp only [Act.put, List.setIfInBounds_toArray, List.set_cons_zero, List.set_cons_succ]
            refine wpAnyH_take (i := 31) (oi := ({ dst := some 84, op := Op.load 53 (Operand.tmp 2), type := 53, pos := "law.go:55", after := #[{ on := 29, ground := Ground.guard }], guard := some (29, true) })) (v := (.agg #[.int .i64 a0, .int .i64 a1, .int .i64 a2])) rfl (by kernel_rfl) (by kernel_rfl) (by kernel_rfl) (fun _ _ _ h => h) (Or.inl ⟨by rfl, ?_⟩) (by assumption) ?_
            · (intro w hSw; (try dsimp only at hSw); go_simp)
            try simp only [Act.put, List.setIfInBounds_toArray, List.set_cons_zero, List.set_cons_succ]
            refine wpAnyH_ready (rs := [32]) (by kernel_rfl) (by simp) (AllReadyH.cons (o := ({ dst := some 85, op := Op.call { callee := Callee.value (Operand.func 51), args := #[Operand.tmp 83, Operand.tmp 84], argTypes := #[53, 53] }, type := 4, pos := "law.go:55", after := #[{ on := 30, ground := Ground.data }, { on := 31, ground := Ground.data }, { on := 29, ground := Ground.chain }, { on := 29, ground := Ground.guard }], guard := some (29, true) })) rfl (fun K hK => ?_) AllReadyH.nil)
            go_simp
            refine (HLS.out _).mono ?_
            rintro e wc ⟨rfl, hbq⟩
            replace hw := hw.trans (Below.mono (by exact ⟨hbq.os, hbq.tape, hbq.output, hbq.size, hbq.block⟩) hw.size)
            clear hbq
            go_wp2_with fail
            clear hHeld
            refine hK.out _ _ ⟨keepB hw Ad0 Al, keepB hw Ad1 Al, keepB hw Ad2 Al, keepB hw Bd0 Bl, keepB hw Bd1 Bl, keepB hw Bd2 Bl⟩ (fun hHeld => ?_)
            clear hK K
            try simp only [Act.put, List.setIfInBounds_toArray, List.set_cons_zero, List.set_cons_succ]
            refine wpAnyH_take (i := 33) (oi := ({ dst := some 86, op := Op.unOp UnOp.not 4 (Operand.tmp 85), type := 4, pos := "law.go:55", after := #[{ on := 32, ground := Ground.data }, { on := 29, ground := Ground.guard }], guard := some (29, true) })) (v := (.bool true)) rfl (by kernel_rfl) (by kernel_rfl) (by kernel_rfl) (fun _ _ _ h => h) (Or.inl ⟨by rfl, ?_⟩) (by assumption) ?_
            · (intro w hSw; (try dsimp only at hSw); go_simp)
            try simp only [Act.put, List.setIfInBounds_toArray, List.set_cons_zero, List.set_cons_succ]
            refine wpAnyH_take (i := 34) (oi := ({ dst := some 87, op := Op.pick (Operand.tmp 82) (Operand.tmp 86) (Operand.const (Value.bool false)), type := 4, pos := "law.go:55", after := #[{ on := 29, ground := Ground.data }, { on := 33, ground := Ground.data }], guard := none })) (v := (.bool true)) rfl (by kernel_rfl) (by kernel_rfl) (by kernel_rfl) (fun _ _ _ h => h) (Or.inl ⟨by rfl, ?_⟩) (by assumption) ?_
            · (intro w hSw; (try dsimp only at hSw); go_simp)
            try simp only [Act.put, List.setIfInBounds_toArray, List.set_cons_zero, List.set_cons_succ]
            refine wpAnyH_take (i := 35) (oi := ({ dst := some 88, op := Op.move (Operand.tmp 87), type := 4, pos := "law.go:55", after := #[{ on := 34, ground := Ground.data }, { on := 32, ground := Ground.chain }], guard := none })) (v := (.bool true)) rfl (by kernel_rfl) (by kernel_rfl) (by kernel_rfl) (fun _ _ _ h => h) (Or.inl ⟨by rfl, ?_⟩) (by assumption) ?_
            · (intro w hSw; (try dsimp only at hSw); go_simp)
            try simp only [Act.put, List.setIfInBounds_toArray, List.set_cons_zero, List.set_cons_succ]
            refine wpAnyH_ready (rs := [36]) (by kernel_rfl) (by simp) (AllReadyH.cons (o := ({ dst := some 89, op := Op.call { callee := Callee.value (Operand.func 55), args := #[], argTypes := #[] }, type := 4, pos := "law.go:55", after := #[{ on := 35, ground := Ground.chain }, { on := 35, ground := Ground.guard }], guard := some (35, true) })) rfl (fun K hK => ?_) AllReadyH.nil)
            go_simp
            refine (AW.out _ (LL.out.below (by exact ⟨hw.os, hw.tape, hw.output, hw.size, hw.block⟩))).mono ?_
            rintro e wc ⟨rfl, hbq⟩
            replace hw := hw.trans (Below.mono (by exact ⟨hbq.os, hbq.tape, hbq.output, hbq.size, hbq.block⟩) hw.size)
            clear hbq
            go_wp2_with fail
            clear hHeld
            refine hK.out _ _ ⟨keepB hw Ad0 Al, keepB hw Ad1 Al, keepB hw Ad2 Al, keepB hw Bd0 Bl, keepB hw Bd1 Bl, keepB hw Bd2 Bl⟩ (fun hHeld => ?_)
            clear hK K
            try simp only [Act.put, List.setIfInBounds_toArray, List.set_cons_zero, List.set_cons_succ]
            refine wpAnyH_take (i := 37) (oi := ({ dst := some 90, op := Op.pick (Operand.tmp 88) (Operand.tmp 89) (Operand.const (Value.bool false)), type := 4, pos := "law.go:55", after := #[{ on := 35, ground := Ground.data }, { on := 36, ground := Ground.data }], guard := none })) (v := (.bool true)) rfl (by kernel_rfl) (by kernel_rfl) (by kernel_rfl) (fun _ _ _ h => h) (Or.inl ⟨by rfl, ?_⟩) (by assumption) ?_
            · (intro w hSw; (try dsimp only at hSw); go_simp)
            try simp only [Act.put, List.setIfInBounds_toArray, List.set_cons_zero, List.set_cons_succ]
            refine wpAnyH_take (i := 38) (oi := ({ dst := some 4, op := Op.assign (Operand.tmp 90), type := 4, pos := "law.go:55", after := #[{ on := 37, ground := Ground.data }, { on := 36, ground := Ground.chain }, { on := 0, ground := Ground.phase }, { on := 1, ground := Ground.phase }, { on := 2, ground := Ground.phase }, { on := 3, ground := Ground.phase }, { on := 4, ground := Ground.phase }, { on := 5, ground := Ground.phase }, { on := 6, ground := Ground.phase }, { on := 7, ground := Ground.phase }, { on := 8, ground := Ground.phase }, { on := 9, ground := Ground.phase }, { on := 10, ground := Ground.phase }, { on := 11, ground := Ground.phase }, { on := 12, ground := Ground.phase }, { on := 13, ground := Ground.phase }, { on := 14, ground := Ground.phase }, { on := 15, ground := Ground.phase }, { on := 16, ground := Ground.phase }, { on := 17, ground := Ground.phase }, { on := 18, ground := Ground.phase }, { on := 19, ground := Ground.phase }, { on := 20, ground := Ground.phase }, { on := 21, ground := Ground.phase }, { on := 22, ground := Ground.phase }, { on := 23, ground := Ground.phase }, { on := 24, ground := Ground.phase }, { on := 25, ground := Ground.phase }, { on := 26, ground := Ground.phase }, { on := 27, ground := Ground.phase }, { on := 28, ground := Ground.phase }, { on := 29, ground := Ground.phase }, { on := 30, ground := Ground.phase }, { on := 31, ground := Ground.phase }, { on := 32, ground := Ground.phase }, { on := 33, ground := Ground.phase }, { on := 34, ground := Ground.phase }, { on := 35, ground := Ground.phase }, { on := 36, ground := Ground.phase }, { on := 37, ground := Ground.phase }], guard := none })) (v := (.bool true)) rfl (by kernel_rfl) (by kernel_rfl) (by kernel_rfl) (fun _ _ _ h => h) (Or.inl ⟨by rfl, ?_⟩) (by assumption) ?_
            · (intro w hSw; (try dsimp only at hSw); go_simp)
            try simp only [Act.put, List.setIfInBounds_toArray, List.set_cons_zero, List.set_cons_succ]
            refine wpAnyH_done (by kernel_rfl) ?_ _
            clear hHeld
            have KL9 := Lib.hid (KL.out.trans (hw.mono (by have := KL.out.size; have := HN.out; omega)))
            go_wp2_with fail
            go_ret
            exact ⟨rfl, KL9.out⟩
      | true =>
        have hxx := True.intro
        cases ga with
        | false =>
          skip
          have Ad0 := KA.out.cell (i := 0) rfl
          have Ad1 := KA.out.cell (i := 1) rfl
          have Ad2 := KA.out.cell (i := 2) rfl
          have Bd0 := KB.out.cell (i := 0) rfl
          have Bd1 := KB.out.cell (i := 1) rfl
          have Bd2 := KB.out.cell (i := 2) rfl
          have Al := KA.out.lt
          have Bl := KB.out.lt
          have hw := below_self KL.out
          refine wp_region_held_drew (S := (fun w' => w'.cell? ⟨n, 0, none⟩ = some (.int .i64 a0) ∧ w'.cell? ⟨n, 1, none⟩ = some (.int .i64 a1) ∧ w'.cell? ⟨n, 2, none⟩ = some (.int .i64 a2) ∧ w'.cell? ⟨(n + 1), 0, none⟩ = some (.int .i64 b0) ∧ w'.cell? ⟨(n + 1), 1, none⟩ = some (.int .i64 b1) ∧ w'.cell? ⟨(n + 1), 2, none⟩ = some (.int .i64 b2))) (by kernel_rfl) ⟨KA.out.drew.cell (i := 0) rfl, KA.out.drew.cell (i := 1) rfl, KA.out.drew.cell (i := 2) rfl, KB.out.drew.cell (i := 0) rfl, KB.out.drew.cell (i := 1) rfl, KB.out.drew.cell (i := 2) rfl⟩ (fun hHeld => ?_)
          refine wpAnyH_take (i := 0) (oi := ({ dst := some 53, op := Op.load 53 (Operand.tmp 2), type := 53, pos := "law.go:55", after := #[], guard := none })) (v := (.agg #[.int .i64 a0, .int .i64 a1, .int .i64 a2])) rfl (by kernel_rfl) (by kernel_rfl) (by kernel_rfl) (fun _ _ _ h => h) (Or.inl ⟨by rfl, ?_⟩) (by assumption) ?_
          · (intro w hSw; (try dsimp only at hSw); go_simp)
          try simp only [Act.put, List.setIfInBounds_toArray, List.set_cons_zero, List.set_cons_succ]
          refine wpAnyH_ready (rs := [1]) (by kernel_rfl) (by simp) (AllReadyH.cons (o := ({ dst := some 54, op := Op.call { callee := Callee.value (Operand.func 47), args := #[Operand.tmp 53], argTypes := #[53] }, type := 4, pos := "law.go:55", after := #[{ on := 0, ground := Ground.data }], guard := none })) rfl (fun K hK => ?_) AllReadyH.nil)
          go_simp
          refine (HRA.out _).mono ?_
          rintro e wc ⟨rfl, hbq⟩
          replace hw := hw.trans (Below.mono (by exact ⟨hbq.os, hbq.tape, hbq.output, hbq.size, hbq.block⟩) hw.size)
          clear hbq
          go_wp2_with fail
          clear hHeld
          refine hK.out _ _ ⟨keepB hw Ad0 Al, keepB hw Ad1 Al, keepB hw Ad2 Al, keepB hw Bd0 Bl, keepB hw Bd1 Bl, keepB hw Bd2 Bl⟩ (fun hHeld => ?_)
          clear hK K
          try simp only [Act.put, List.setIfInBounds_toArray, List.set_cons_zero, List.set_cons_succ]
          refine wpAnyH_take (i := 2) (oi := ({ dst := some 55, op := Op.unOp UnOp.not 4 (Operand.tmp 54), type := 4, pos := "law.go:55", after := #[{ on := 1, ground := Ground.data }], guard := none })) (v := (.bool true)) rfl (by kernel_rfl) (by kernel_rfl) (by kernel_rfl) (fun _ _ _ h => h) (Or.inl ⟨by rfl, ?_⟩) (by assumption) ?_
          · (intro w hSw; (try dsimp only at hSw); go_simp)
          try simp only [Act.put, List.setIfInBounds_toArray, List.set_cons_zero, List.set_cons_succ]
          refine wpAnyH_take (i := 3) (oi := ({ dst := some 56, op := Op.move (Operand.tmp 55), type := 4, pos := "law.go:55", after := #[{ on := 2, ground := Ground.data }, { on := 1, ground := Ground.chain }], guard := none })) (v := (.bool true)) rfl (by kernel_rfl) (by kernel_rfl) (by kernel_rfl) (fun _ _ _ h => h) (Or.inl ⟨by rfl, ?_⟩) (by assumption) ?_
          · (intro w hSw; (try dsimp only at hSw); go_simp)
          try simp only [Act.put, List.setIfInBounds_toArray, List.set_cons_zero, List.set_cons_succ]
          refine wpAnyH_take (i := 4) (oi := ({ dst := some 57, op := Op.load 53 (Operand.tmp 3), type := 53, pos := "law.go:55", after := #[{ on := 3, ground := Ground.guard }], guard := some (3, false) })) (v := undef) rfl (by kernel_rfl) (by kernel_rfl) (by kernel_rfl) (fun _ _ _ h => h) (Or.inr ⟨by rfl, rfl⟩) (by assumption) ?_
          try simp only [Act.put, List.setIfInBounds_toArray, List.set_cons_zero, List.set_cons_succ]
          refine wpAnyH_take (i := 5) (oi := ({ dst := some 58, op := Op.call { callee := Callee.value (Operand.func 47), args := #[Operand.tmp 57], argTypes := #[53] }, type := 4, pos := "law.go:55", after := #[{ on := 4, ground := Ground.data }, { on := 3, ground := Ground.chain }, { on := 3, ground := Ground.guard }], guard := some (3, false) })) (v := undef) rfl (by kernel_rfl) (by kernel_rfl) (by kernel_rfl) (fun _ _ _ h => h) (Or.inr ⟨by rfl, rfl⟩) (by assumption) ?_
          try simp only [Act.put, List.setIfInBounds_toArray, List.set_cons_zero, List.set_cons_succ]
          refine wpAnyH_take (i := 6) (oi := ({ dst := some 59, op := Op.unOp UnOp.not 4 (Operand.tmp 58), type := 4, pos := "law.go:55", after := #[{ on := 5, ground := Ground.data }, { on := 3, ground := Ground.guard }], guard := some (3, false) })) (v := undef) rfl (by kernel_rfl) (by kernel_rfl) (by kernel_rfl) (fun _ _ _ h => h) (Or.inr ⟨by rfl, rfl⟩) (by assumption) ?_
          try simp only [Act.put, List.setIfInBounds_toArray, List.set_cons_zero, List.set_cons_succ]
          refine wpAnyH_take (i := 7) (oi := ({ dst := some 60, op := Op.pick (Operand.tmp 56) (Operand.const (Value.bool true)) (Operand.tmp 59), type := 4, pos := "law.go:55", after := #[{ on := 3, ground := Ground.data }, { on := 6, ground := Ground.data }], guard := none })) (v := (.bool true)) rfl (by kernel_rfl) (by kernel_rfl) (by kernel_rfl) (fun _ _ _ h => h) (Or.inl ⟨by rfl, ?_⟩) (by assumption) ?_
          · (intro w hSw; (try dsimp only at hSw); go_simp)
          try simp only [Act.put, List.setIfInBounds_toArray, List.set_cons_zero, List.set_cons_succ]
          refine wpAnyH_take (i := 8) (oi := ({ dst := some 61, op := Op.move (Operand.tmp 60), type := 4, pos := "law.go:55", after := #[{ on := 7, ground := Ground.data }, { on := 5, ground := Ground.chain }], guard := none })) (v := (.bool true)) rfl (by kernel_rfl) (by kernel_rfl) (by kernel_rfl) (fun _ _ _ h => h) (Or.inl ⟨by rfl, ?_⟩) (by assumption) ?_
          · (intro w hSw; (try dsimp only at hSw); go_simp)
          try simp only [Act.put, List.setIfInBounds_toArray, List.set_cons_zero, List.set_cons_succ]
          refine wpAnyH_take (i := 9) (oi := ({ dst := some 62, op := Op.load 53 (Operand.tmp 3), type := 53, pos := "law.go:55", after := #[{ on := 8, ground := Ground.guard }], guard := some (8, false) })) (v := undef) rfl (by kernel_rfl) (by kernel_rfl) (by kernel_rfl) (fun _ _ _ h => h) (Or.inr ⟨by rfl, rfl⟩) (by assumption) ?_
          try simp only [Act.put, List.setIfInBounds_toArray, List.set_cons_zero, List.set_cons_succ]
          refine wpAnyH_take (i := 10) (oi := ({ dst := some 63, op := Op.load 53 (Operand.tmp 2), type := 53, pos := "law.go:55", after := #[{ on := 8, ground := Ground.guard }], guard := some (8, false) })) (v := undef) rfl (by kernel_rfl) (by kernel_rfl) (by kernel_rfl) (fun _ _ _ h => h) (Or.inr ⟨by rfl, rfl⟩) (by assumption) ?_
          try simp only [Act.put, List.setIfInBounds_toArray, List.set_cons_zero, List.set_cons_succ]
          refine wpAnyH_take (i := 12) (oi := ({ dst := some 65, op := Op.move (Operand.tmp 10), type := 4, pos := "law.go:55", after := #[{ on := 8, ground := Ground.guard }], guard := some (8, false) })) (v := undef) rfl (by kernel_rfl) (by kernel_rfl) (by kernel_rfl) (fun _ _ _ h => h) (Or.inr ⟨by rfl, rfl⟩) (by assumption) ?_
          try simp only [Act.put, List.setIfInBounds_toArray, List.set_cons_zero, List.set_cons_succ]
          refine wpAnyH_take (i := 11) (oi := ({ dst := some 64, op := Op.call { callee := Callee.value (Operand.func 49), args := #[Operand.tmp 62, Operand.tmp 63], argTypes := #[53, 53] }, type := 4, pos := "law.go:55", after := #[{ on := 9, ground := Ground.data }, { on := 10, ground := Ground.data }, { on := 8, ground := Ground.chain }, { on := 8, ground := Ground.guard }], guard := some (8, false) })) (v := undef) rfl (by kernel_rfl) (by kernel_rfl) (by kernel_rfl) (fun _ _ _ h => h) (Or.inr ⟨by rfl, rfl⟩) (by assumption) ?_
          try simp only [Act.put, List.setIfInBounds_toArray, List.set_cons_zero, List.set_cons_succ]
          refine wpAnyH_take (i := 13) (oi := ({ dst := some 66, op := Op.binOp BinOp.eql 4 (Operand.tmp 64) (Operand.tmp 65) 4, type := 4, pos := "law.go:55", after := #[{ on := 11, ground := Ground.data }, { on := 12, ground := Ground.data }, { on := 8, ground := Ground.guard }], guard := some (8, false) })) (v := undef) rfl (by kernel_rfl) (by kernel_rfl) (by kernel_rfl) (fun _ _ _ h => h) (Or.inr ⟨by rfl, rfl⟩) (by assumption) ?_
          try simp only [Act.put, List.setIfInBounds_toArray, List.set_cons_zero, List.set_cons_succ]
          refine wpAnyH_take (i := 14) (oi := ({ dst := some 67, op := Op.pick (Operand.tmp 61) (Operand.const (Value.bool true)) (Operand.tmp 66), type := 4, pos := "law.go:55", after := #[{ on := 8, ground := Ground.data }, { on := 13, ground := Ground.data }], guard := none })) (v := (.bool true)) rfl (by kernel_rfl) (by kernel_rfl) (by kernel_rfl) (fun _ _ _ h => h) (Or.inl ⟨by rfl, ?_⟩) (by assumption) ?_
          · (intro w hSw; (try dsimp only at hSw); go_simp)
          try simp only [Act.put, List.setIfInBounds_toArray, List.set_cons_zero, List.set_cons_succ]
          refine wpAnyH_take (i := 15) (oi := ({ dst := some 68, op := Op.move (Operand.tmp 67), type := 4, pos := "law.go:55", after := #[{ on := 14, ground := Ground.data }, { on := 11, ground := Ground.chain }], guard := none })) (v := (.bool true)) rfl (by kernel_rfl) (by kernel_rfl) (by kernel_rfl) (fun _ _ _ h => h) (Or.inl ⟨by rfl, ?_⟩) (by assumption) ?_
          · (intro w hSw; (try dsimp only at hSw); go_simp)
          try simp only [Act.put, List.setIfInBounds_toArray, List.set_cons_zero, List.set_cons_succ]
          refine wpAnyH_take (i := 16) (oi := ({ dst := some 69, op := Op.load 53 (Operand.tmp 2), type := 53, pos := "law.go:55", after := #[{ on := 15, ground := Ground.guard }], guard := some (15, true) })) (v := (.agg #[.int .i64 a0, .int .i64 a1, .int .i64 a2])) rfl (by kernel_rfl) (by kernel_rfl) (by kernel_rfl) (fun _ _ _ h => h) (Or.inl ⟨by rfl, ?_⟩) (by assumption) ?_
          · (intro w hSw; (try dsimp only at hSw); go_simp)
          try simp only [Act.put, List.setIfInBounds_toArray, List.set_cons_zero, List.set_cons_succ]
          refine wpAnyH_take (i := 17) (oi := ({ dst := some 70, op := Op.load 53 (Operand.tmp 3), type := 53, pos := "law.go:55", after := #[{ on := 15, ground := Ground.guard }], guard := some (15, true) })) (v := (.agg #[.int .i64 b0, .int .i64 b1, .int .i64 b2])) rfl (by kernel_rfl) (by kernel_rfl) (by kernel_rfl) (fun _ _ _ h => h) (Or.inl ⟨by rfl, ?_⟩) (by assumption) ?_
          · (intro w hSw; (try dsimp only at hSw); go_simp)
          try simp only [Act.put, List.setIfInBounds_toArray, List.set_cons_zero, List.set_cons_succ]
          refine wpAnyH_take (i := 18) (oi := ({ dst := some 71, op := Op.binOp BinOp.eql 53 (Operand.tmp 69) (Operand.tmp 70) 53, type := 4, pos := "law.go:55", after := #[{ on := 16, ground := Ground.data }, { on := 17, ground := Ground.data }, { on := 15, ground := Ground.guard }], guard := some (15, true) })) (v := (.bool true)) rfl (by kernel_rfl) (by kernel_rfl) (by kernel_rfl) (fun _ _ _ h => h) (Or.inl ⟨by rfl, ?_⟩) (by assumption) ?_
          · (intro w hSw; (try dsimp only at hSw); go_simp)
          try simp only [Act.put, List.setIfInBounds_toArray, List.set_cons_zero, List.set_cons_succ]
          refine wpAnyH_take (i := 19) (oi := ({ dst := some 72, op := Op.move (Operand.tmp 71), type := 4, pos := "law.go:55", after := #[{ on := 18, ground := Ground.data }, { on := 15, ground := Ground.chain }, { on := 15, ground := Ground.guard }], guard := some (15, true) })) (v := (.bool true)) rfl (by kernel_rfl) (by kernel_rfl) (by kernel_rfl) (fun _ _ _ h => h) (Or.inl ⟨by rfl, ?_⟩) (by assumption) ?_
          · (intro w hSw; (try dsimp only at hSw); go_simp)
          try simp only [Act.put, List.setIfInBounds_toArray, List.set_cons_zero, List.set_cons_succ]
          refine wpAnyH_take (i := 20) (oi := ({ dst := some 73, op := Op.load 53 (Operand.tmp 2), type := 53, pos := "law.go:55", after := #[{ on := 19, ground := Ground.guard }], guard := some (19, false) })) (v := undef) rfl (by kernel_rfl) (by kernel_rfl) (by kernel_rfl) (fun _ _ _ h => h) (Or.inr ⟨by rfl, rfl⟩) (by assumption) ?_
          try simp only [Act.put, List.setIfInBounds_toArray, List.set_cons_zero, List.set_cons_succ]
          refine wpAnyH_take (i := 21) (oi := ({ dst := some 74, op := Op.load 53 (Operand.tmp 3), type := 53, pos := "law.go:55", after := #[{ on := 19, ground := Ground.guard }], guard := some (19, false) })) (v := undef) rfl (by kernel_rfl) (by kernel_rfl) (by kernel_rfl) (fun _ _ _ h => h) (Or.inr ⟨by rfl, rfl⟩) (by assumption) ?_
          try simp only [Act.put, List.setIfInBounds_toArray, List.set_cons_zero, List.set_cons_succ]
          refine wpAnyH_take (i := 23) (oi := ({ dst := some 76, op := Op.load 53 (Operand.tmp 3), type := 53, pos := "law.go:55", after := #[{ on := 19, ground := Ground.guard }], guard := some (19, false) })) (v := undef) rfl (by kernel_rfl) (by kernel_rfl) (by kernel_rfl) (fun _ _ _ h => h) (Or.inr ⟨by rfl, rfl⟩) (by assumption) ?_
          try simp only [Act.put, List.setIfInBounds_toArray, List.set_cons_zero, List.set_cons_succ]
          refine wpAnyH_take (i := 24) (oi := ({ dst := some 77, op := Op.load 53 (Operand.tmp 2), type := 53, pos := "law.go:55", after := #[{ on := 19, ground := Ground.guard }], guard := some (19, false) })) (v := undef) rfl (by kernel_rfl) (by kernel_rfl) (by kernel_rfl) (fun _ _ _ h => h) (Or.inr ⟨by rfl, rfl⟩) (by assumption) ?_
          try simp only [Act.put, List.setIfInBounds_toArray, List.set_cons_zero, List.set_cons_succ]
          refine wpAnyH_take (i := 22) (oi := ({ dst := some 75, op := Op.call { callee := Callee.value (Operand.func 51), args := #[Operand.tmp 73, Operand.tmp 74], argTypes := #[53, 53] }, type := 4, pos := "law.go:55", after := #[{ on := 20, ground := Ground.data }, { on := 21, ground := Ground.data }, { on := 19, ground := Ground.chain }, { on := 19, ground := Ground.guard }], guard := some (19, false) })) (v := undef) rfl (by kernel_rfl) (by kernel_rfl) (by kernel_rfl) (fun _ _ _ h => h) (Or.inr ⟨by rfl, rfl⟩) (by assumption) ?_
          try simp only [Act.put, List.setIfInBounds_toArray, List.set_cons_zero, List.set_cons_succ]
          refine wpAnyH_take (i := 25) (oi := ({ dst := some 78, op := Op.call { callee := Callee.value (Operand.func 51), args := #[Operand.tmp 76, Operand.tmp 77], argTypes := #[53, 53] }, type := 4, pos := "law.go:55", after := #[{ on := 23, ground := Ground.data }, { on := 24, ground := Ground.data }, { on := 22, ground := Ground.chain }, { on := 19, ground := Ground.guard }], guard := some (19, false) })) (v := undef) rfl (by kernel_rfl) (by kernel_rfl) (by kernel_rfl) (fun _ _ _ h => h) (Or.inr ⟨by rfl, rfl⟩) (by assumption) ?_
          try simp only [Act.put, List.setIfInBounds_toArray, List.set_cons_zero, List.set_cons_succ]
          refine wpAnyH_take (i := 26) (oi := ({ dst := some 79, op := Op.binOp BinOp.neq 4 (Operand.tmp 75) (Operand.tmp 78) 4, type := 4, pos := "law.go:55", after := #[{ on := 22, ground := Ground.data }, { on := 25, ground := Ground.data }, { on := 19, ground := Ground.guard }], guard := some (19, false) })) (v := undef) rfl (by kernel_rfl) (by kernel_rfl) (by kernel_rfl) (fun _ _ _ h => h) (Or.inr ⟨by rfl, rfl⟩) (by assumption) ?_
          try simp only [Act.put, List.setIfInBounds_toArray, List.set_cons_zero, List.set_cons_succ]
          refine wpAnyH_take (i := 27) (oi := ({ dst := some 80, op := Op.pick (Operand.tmp 72) (Operand.const (Value.bool true)) (Operand.tmp 79), type := 4, pos := "law.go:55", after := #[{ on := 19, ground := Ground.data }, { on := 26, ground := Ground.data }, { on := 15, ground := Ground.guard }], guard := some (15, true) })) (v := (.bool true)) rfl (by kernel_rfl) (by kernel_rfl) (by kernel_rfl) (fun _ _ _ h => h) (Or.inl ⟨by rfl, ?_⟩) (by assumption) ?_
          · (intro w hSw; (try dsimp only at hSw); go_simp)
          try simp only [Act.put, List.setIfInBounds_toArray, List.set_cons_zero, List.set_cons_succ]
          refine wpAnyH_take (i := 28) (oi := ({ dst := some 81, op := Op.pick (Operand.tmp 68) (Operand.tmp 80) (Operand.const (Value.bool false)), type := 4, pos := "law.go:55", after := #[{ on := 15, ground := Ground.data }, { on := 27, ground := Ground.data }], guard := none })) (v := (.bool true)) rfl (by kernel_rfl) (by kernel_rfl) (by kernel_rfl) (fun _ _ _ h => h) (Or.inl ⟨by rfl, ?_⟩) (by assumption) ?_
          · (intro w hSw; (try dsimp only at hSw); go_simp)
          try simp only [Act.put, List.setIfInBounds_toArray, List.set_cons_zero, List.set_cons_succ]
          refine wpAnyH_take (i := 29) (oi := ({ dst := some 82, op := Op.move (Operand.tmp 81), type := 4, pos := "law.go:55", after := #[{ on := 28, ground := Ground.data }, { on := 25, ground := Ground.chain }], guard := none })) (v := (.bool true)) rfl (by kernel_rfl) (by kernel_rfl) (by kernel_rfl) (fun _ _ _ h => h) (Or.inl ⟨by rfl, ?_⟩) (by assumption) ?_
          · (intro w hSw; (try dsimp only at hSw); go_simp)
          try simp only [Act.put, List.setIfInBounds_toArray, List.set_cons_zero, List.set_cons_succ]
          refine wpAnyH_take (i := 30) (oi := ({ dst := some 83, op := Op.load 53 (Operand.tmp 2), type := 53, pos := "law.go:55", after := #[{ on := 29, ground := Ground.guard }], guard := some (29, true) })) (v := (.agg #[.int .i64 a0, .int .i64 a1, .int .i64 a2])) rfl (by kernel_rfl) (by kernel_rfl) (by kernel_rfl) (fun _ _ _ h => h) (Or.inl ⟨by rfl, ?_⟩) (by assumption) ?_
          · (intro w hSw; (try dsimp only at hSw); go_simp)
          try simp only [Act.put, List.setIfInBounds_toArray, List.set_cons_zero, List.set_cons_succ]
          refine wpAnyH_take (i := 31) (oi := ({ dst := some 84, op := Op.load 53 (Operand.tmp 2), type := 53, pos := "law.go:55", after := #[{ on := 29, ground := Ground.guard }], guard := some (29, true) })) (v := (.agg #[.int .i64 a0, .int .i64 a1, .int .i64 a2])) rfl (by kernel_rfl) (by kernel_rfl) (by kernel_rfl) (fun _ _ _ h => h) (Or.inl ⟨by rfl, ?_⟩) (by assumption) ?_
          · (intro w hSw; (try dsimp only at hSw); go_simp)
          try simp only [Act.put, List.setIfInBounds_toArray, List.set_cons_zero, List.set_cons_succ]
          refine wpAnyH_ready (rs := [32]) (by kernel_rfl) (by simp) (AllReadyH.cons (o := ({ dst := some 85, op := Op.call { callee := Callee.value (Operand.func 51), args := #[Operand.tmp 83, Operand.tmp 84], argTypes := #[53, 53] }, type := 4, pos := "law.go:55", after := #[{ on := 30, ground := Ground.data }, { on := 31, ground := Ground.data }, { on := 29, ground := Ground.chain }, { on := 29, ground := Ground.guard }], guard := some (29, true) })) rfl (fun K hK => ?_) AllReadyH.nil)
          go_simp
          refine (HLS.out _).mono ?_
          rintro e wc ⟨rfl, hbq⟩
          replace hw := hw.trans (Below.mono (by exact ⟨hbq.os, hbq.tape, hbq.output, hbq.size, hbq.block⟩) hw.size)
          clear hbq
          go_wp2_with fail
          clear hHeld
          refine hK.out _ _ ⟨keepB hw Ad0 Al, keepB hw Ad1 Al, keepB hw Ad2 Al, keepB hw Bd0 Bl, keepB hw Bd1 Bl, keepB hw Bd2 Bl⟩ (fun hHeld => ?_)
          clear hK K
          try simp only [Act.put, List.setIfInBounds_toArray, List.set_cons_zero, List.set_cons_succ]
          refine wpAnyH_take (i := 33) (oi := ({ dst := some 86, op := Op.unOp UnOp.not 4 (Operand.tmp 85), type := 4, pos := "law.go:55", after := #[{ on := 32, ground := Ground.data }, { on := 29, ground := Ground.guard }], guard := some (29, true) })) (v := (.bool true)) rfl (by kernel_rfl) (by kernel_rfl) (by kernel_rfl) (fun _ _ _ h => h) (Or.inl ⟨by rfl, ?_⟩) (by assumption) ?_
          · (intro w hSw; (try dsimp only at hSw); go_simp)
          try simp only [Act.put, List.setIfInBounds_toArray, List.set_cons_zero, List.set_cons_succ]
          refine wpAnyH_take (i := 34) (oi := ({ dst := some 87, op := Op.pick (Operand.tmp 82) (Operand.tmp 86) (Operand.const (Value.bool false)), type := 4, pos := "law.go:55", after := #[{ on := 29, ground := Ground.data }, { on := 33, ground := Ground.data }], guard := none })) (v := (.bool true)) rfl (by kernel_rfl) (by kernel_rfl) (by kernel_rfl) (fun _ _ _ h => h) (Or.inl ⟨by rfl, ?_⟩) (by assumption) ?_
          · (intro w hSw; (try dsimp only at hSw); go_simp)
          try simp only [Act.put, List.setIfInBounds_toArray, List.set_cons_zero, List.set_cons_succ]
          refine wpAnyH_take (i := 35) (oi := ({ dst := some 88, op := Op.move (Operand.tmp 87), type := 4, pos := "law.go:55", after := #[{ on := 34, ground := Ground.data }, { on := 32, ground := Ground.chain }], guard := none })) (v := (.bool true)) rfl (by kernel_rfl) (by kernel_rfl) (by kernel_rfl) (fun _ _ _ h => h) (Or.inl ⟨by rfl, ?_⟩) (by assumption) ?_
          · (intro w hSw; (try dsimp only at hSw); go_simp)
          try simp only [Act.put, List.setIfInBounds_toArray, List.set_cons_zero, List.set_cons_succ]
          refine wpAnyH_ready (rs := [36]) (by kernel_rfl) (by simp) (AllReadyH.cons (o := ({ dst := some 89, op := Op.call { callee := Callee.value (Operand.func 55), args := #[], argTypes := #[] }, type := 4, pos := "law.go:55", after := #[{ on := 35, ground := Ground.chain }, { on := 35, ground := Ground.guard }], guard := some (35, true) })) rfl (fun K hK => ?_) AllReadyH.nil)
          go_simp
          refine (AW.out _ (LL.out.below (by exact ⟨hw.os, hw.tape, hw.output, hw.size, hw.block⟩))).mono ?_
          rintro e wc ⟨rfl, hbq⟩
          replace hw := hw.trans (Below.mono (by exact ⟨hbq.os, hbq.tape, hbq.output, hbq.size, hbq.block⟩) hw.size)
          clear hbq
          go_wp2_with fail
          clear hHeld
          refine hK.out _ _ ⟨keepB hw Ad0 Al, keepB hw Ad1 Al, keepB hw Ad2 Al, keepB hw Bd0 Bl, keepB hw Bd1 Bl, keepB hw Bd2 Bl⟩ (fun hHeld => ?_)
          clear hK K
          try simp only [Act.put, List.setIfInBounds_toArray, List.set_cons_zero, List.set_cons_succ]
          refine wpAnyH_take (i := 37) (oi := ({ dst := some 90, op := Op.pick (Operand.tmp 88) (Operand.tmp 89) (Operand.const (Value.bool false)), type := 4, pos := "law.go:55", after := #[{ on := 35, ground := Ground.data }, { on := 36, ground := Ground.data }], guard := none })) (v := (.bool true)) rfl (by kernel_rfl) (by kernel_rfl) (by kernel_rfl) (fun _ _ _ h => h) (Or.inl ⟨by rfl, ?_⟩) (by assumption) ?_
          · (intro w hSw; (try dsimp only at hSw); go_simp)
          try simp only [Act.put, List.setIfInBounds_toArray, List.set_cons_zero, List.set_cons_succ]
          refine wpAnyH_take (i := 38) (oi := ({ dst := some 4, op := Op.assign (Operand.tmp 90), type := 4, pos := "law.go:55", after := #[{ on := 37, ground := Ground.data }, { on := 36, ground := Ground.chain }, { on := 0, ground := Ground.phase }, { on := 1, ground := Ground.phase }, { on := 2, ground := Ground.phase }, { on := 3, ground := Ground.phase }, { on := 4, ground := Ground.phase }, { on := 5, ground := Ground.phase }, { on := 6, ground := Ground.phase }, { on := 7, ground := Ground.phase }, { on := 8, ground := Ground.phase }, { on := 9, ground := Ground.phase }, { on := 10, ground := Ground.phase }, { on := 11, ground := Ground.phase }, { on := 12, ground := Ground.phase }, { on := 13, ground := Ground.phase }, { on := 14, ground := Ground.phase }, { on := 15, ground := Ground.phase }, { on := 16, ground := Ground.phase }, { on := 17, ground := Ground.phase }, { on := 18, ground := Ground.phase }, { on := 19, ground := Ground.phase }, { on := 20, ground := Ground.phase }, { on := 21, ground := Ground.phase }, { on := 22, ground := Ground.phase }, { on := 23, ground := Ground.phase }, { on := 24, ground := Ground.phase }, { on := 25, ground := Ground.phase }, { on := 26, ground := Ground.phase }, { on := 27, ground := Ground.phase }, { on := 28, ground := Ground.phase }, { on := 29, ground := Ground.phase }, { on := 30, ground := Ground.phase }, { on := 31, ground := Ground.phase }, { on := 32, ground := Ground.phase }, { on := 33, ground := Ground.phase }, { on := 34, ground := Ground.phase }, { on := 35, ground := Ground.phase }, { on := 36, ground := Ground.phase }, { on := 37, ground := Ground.phase }], guard := none })) (v := (.bool true)) rfl (by kernel_rfl) (by kernel_rfl) (by kernel_rfl) (fun _ _ _ h => h) (Or.inl ⟨by rfl, ?_⟩) (by assumption) ?_
          · (intro w hSw; (try dsimp only at hSw); go_simp)
          try simp only [Act.put, List.setIfInBounds_toArray, List.set_cons_zero, List.set_cons_succ]
          refine wpAnyH_done (by kernel_rfl) ?_ _
          clear hHeld
          have KL9 := Lib.hid (KL.out.trans (hw.mono (by have := KL.out.size; have := HN.out; omega)))
          go_wp2_with fail
          go_ret
          exact ⟨rfl, KL9.out⟩
        | true =>
          cases gb with
          | false =>
            skip
            have Ad0 := KA.out.cell (i := 0) rfl
            have Ad1 := KA.out.cell (i := 1) rfl
            have Ad2 := KA.out.cell (i := 2) rfl
            have Bd0 := KB.out.cell (i := 0) rfl
            have Bd1 := KB.out.cell (i := 1) rfl
            have Bd2 := KB.out.cell (i := 2) rfl
            have Al := KA.out.lt
            have Bl := KB.out.lt
            have hw := below_self KL.out
            refine wp_region_held_drew (S := (fun w' => w'.cell? ⟨n, 0, none⟩ = some (.int .i64 a0) ∧ w'.cell? ⟨n, 1, none⟩ = some (.int .i64 a1) ∧ w'.cell? ⟨n, 2, none⟩ = some (.int .i64 a2) ∧ w'.cell? ⟨(n + 1), 0, none⟩ = some (.int .i64 b0) ∧ w'.cell? ⟨(n + 1), 1, none⟩ = some (.int .i64 b1) ∧ w'.cell? ⟨(n + 1), 2, none⟩ = some (.int .i64 b2))) (by kernel_rfl) ⟨KA.out.drew.cell (i := 0) rfl, KA.out.drew.cell (i := 1) rfl, KA.out.drew.cell (i := 2) rfl, KB.out.drew.cell (i := 0) rfl, KB.out.drew.cell (i := 1) rfl, KB.out.drew.cell (i := 2) rfl⟩ (fun hHeld => ?_)
            refine wpAnyH_take (i := 0) (oi := ({ dst := some 53, op := Op.load 53 (Operand.tmp 2), type := 53, pos := "law.go:55", after := #[], guard := none })) (v := (.agg #[.int .i64 a0, .int .i64 a1, .int .i64 a2])) rfl (by kernel_rfl) (by kernel_rfl) (by kernel_rfl) (fun _ _ _ h => h) (Or.inl ⟨by rfl, ?_⟩) (by assumption) ?_
            · (intro w hSw; (try dsimp only at hSw); go_simp)
            try simp only [Act.put, List.setIfInBounds_toArray, List.set_cons_zero, List.set_cons_succ]
            refine wpAnyH_ready (rs := [1]) (by kernel_rfl) (by simp) (AllReadyH.cons (o := ({ dst := some 54, op := Op.call { callee := Callee.value (Operand.func 47), args := #[Operand.tmp 53], argTypes := #[53] }, type := 4, pos := "law.go:55", after := #[{ on := 0, ground := Ground.data }], guard := none })) rfl (fun K hK => ?_) AllReadyH.nil)
            go_simp
            refine (HRA.out _).mono ?_
            rintro e wc ⟨rfl, hbq⟩
            replace hw := hw.trans (Below.mono (by exact ⟨hbq.os, hbq.tape, hbq.output, hbq.size, hbq.block⟩) hw.size)
            clear hbq
            go_wp2_with fail
            clear hHeld
            refine hK.out _ _ ⟨keepB hw Ad0 Al, keepB hw Ad1 Al, keepB hw Ad2 Al, keepB hw Bd0 Bl, keepB hw Bd1 Bl, keepB hw Bd2 Bl⟩ (fun hHeld => ?_)
            clear hK K
            try simp only [Act.put, List.setIfInBounds_toArray, List.set_cons_zero, List.set_cons_succ]
            refine wpAnyH_take (i := 2) (oi := ({ dst := some 55, op := Op.unOp UnOp.not 4 (Operand.tmp 54), type := 4, pos := "law.go:55", after := #[{ on := 1, ground := Ground.data }], guard := none })) (v := (.bool false)) rfl (by kernel_rfl) (by kernel_rfl) (by kernel_rfl) (fun _ _ _ h => h) (Or.inl ⟨by rfl, ?_⟩) (by assumption) ?_
            · (intro w hSw; (try dsimp only at hSw); go_simp)
            try simp only [Act.put, List.setIfInBounds_toArray, List.set_cons_zero, List.set_cons_succ]
            refine wpAnyH_take (i := 3) (oi := ({ dst := some 56, op := Op.move (Operand.tmp 55), type := 4, pos := "law.go:55", after := #[{ on := 2, ground := Ground.data }, { on := 1, ground := Ground.chain }], guard := none })) (v := (.bool false)) rfl (by kernel_rfl) (by kernel_rfl) (by kernel_rfl) (fun _ _ _ h => h) (Or.inl ⟨by rfl, ?_⟩) (by assumption) ?_
            · (intro w hSw; (try dsimp only at hSw); go_simp)
            try simp only [Act.put, List.setIfInBounds_toArray, List.set_cons_zero, List.set_cons_succ]
            refine wpAnyH_take (i := 4) (oi := ({ dst := some 57, op := Op.load 53 (Operand.tmp 3), type := 53, pos := "law.go:55", after := #[{ on := 3, ground := Ground.guard }], guard := some (3, false) })) (v := (.agg #[.int .i64 b0, .int .i64 b1, .int .i64 b2])) rfl (by kernel_rfl) (by kernel_rfl) (by kernel_rfl) (fun _ _ _ h => h) (Or.inl ⟨by rfl, ?_⟩) (by assumption) ?_
            · (intro w hSw; (try dsimp only at hSw); go_simp)
            try simp only [Act.put, List.setIfInBounds_toArray, List.set_cons_zero, List.set_cons_succ]
            refine wpAnyH_ready (rs := [5]) (by kernel_rfl) (by simp) (AllReadyH.cons (o := ({ dst := some 58, op := Op.call { callee := Callee.value (Operand.func 47), args := #[Operand.tmp 57], argTypes := #[53] }, type := 4, pos := "law.go:55", after := #[{ on := 4, ground := Ground.data }, { on := 3, ground := Ground.chain }, { on := 3, ground := Ground.guard }], guard := some (3, false) })) rfl (fun K hK => ?_) AllReadyH.nil)
            go_simp
            refine (HRB.out _).mono ?_
            rintro e wc ⟨rfl, hbq⟩
            replace hw := hw.trans (Below.mono (by exact ⟨hbq.os, hbq.tape, hbq.output, hbq.size, hbq.block⟩) hw.size)
            clear hbq
            go_wp2_with fail
            clear hHeld
            refine hK.out _ _ ⟨keepB hw Ad0 Al, keepB hw Ad1 Al, keepB hw Ad2 Al, keepB hw Bd0 Bl, keepB hw Bd1 Bl, keepB hw Bd2 Bl⟩ (fun hHeld => ?_)
            clear hK K
            try simp only [Act.put, List.setIfInBounds_toArray, List.set_cons_zero, List.set_cons_succ]
            refine wpAnyH_take (i := 6) (oi := ({ dst := some 59, op := Op.unOp UnOp.not 4 (Operand.tmp 58), type := 4, pos := "law.go:55", after := #[{ on := 5, ground := Ground.data }, { on := 3, ground := Ground.guard }], guard := some (3, false) })) (v := (.bool true)) rfl (by kernel_rfl) (by kernel_rfl) (by kernel_rfl) (fun _ _ _ h => h) (Or.inl ⟨by rfl, ?_⟩) (by assumption) ?_
            · (intro w hSw; (try dsimp only at hSw); go_simp)
            try simp only [Act.put, List.setIfInBounds_toArray, List.set_cons_zero, List.set_cons_succ]
            refine wpAnyH_take (i := 7) (oi := ({ dst := some 60, op := Op.pick (Operand.tmp 56) (Operand.const (Value.bool true)) (Operand.tmp 59), type := 4, pos := "law.go:55", after := #[{ on := 3, ground := Ground.data }, { on := 6, ground := Ground.data }], guard := none })) (v := (.bool true)) rfl (by kernel_rfl) (by kernel_rfl) (by kernel_rfl) (fun _ _ _ h => h) (Or.inl ⟨by rfl, ?_⟩) (by assumption) ?_
            · (intro w hSw; (try dsimp only at hSw); go_simp)
            try simp only [Act.put, List.setIfInBounds_toArray, List.set_cons_zero, List.set_cons_succ]
            refine wpAnyH_take (i := 8) (oi := ({ dst := some 61, op := Op.move (Operand.tmp 60), type := 4, pos := "law.go:55", after := #[{ on := 7, ground := Ground.data }, { on := 5, ground := Ground.chain }], guard := none })) (v := (.bool true)) rfl (by kernel_rfl) (by kernel_rfl) (by kernel_rfl) (fun _ _ _ h => h) (Or.inl ⟨by rfl, ?_⟩) (by assumption) ?_
            · (intro w hSw; (try dsimp only at hSw); go_simp)
            try simp only [Act.put, List.setIfInBounds_toArray, List.set_cons_zero, List.set_cons_succ]
            refine wpAnyH_take (i := 9) (oi := ({ dst := some 62, op := Op.load 53 (Operand.tmp 3), type := 53, pos := "law.go:55", after := #[{ on := 8, ground := Ground.guard }], guard := some (8, false) })) (v := undef) rfl (by kernel_rfl) (by kernel_rfl) (by kernel_rfl) (fun _ _ _ h => h) (Or.inr ⟨by rfl, rfl⟩) (by assumption) ?_
            try simp only [Act.put, List.setIfInBounds_toArray, List.set_cons_zero, List.set_cons_succ]
            refine wpAnyH_take (i := 10) (oi := ({ dst := some 63, op := Op.load 53 (Operand.tmp 2), type := 53, pos := "law.go:55", after := #[{ on := 8, ground := Ground.guard }], guard := some (8, false) })) (v := undef) rfl (by kernel_rfl) (by kernel_rfl) (by kernel_rfl) (fun _ _ _ h => h) (Or.inr ⟨by rfl, rfl⟩) (by assumption) ?_
            try simp only [Act.put, List.setIfInBounds_toArray, List.set_cons_zero, List.set_cons_succ]
            refine wpAnyH_take (i := 12) (oi := ({ dst := some 65, op := Op.move (Operand.tmp 10), type := 4, pos := "law.go:55", after := #[{ on := 8, ground := Ground.guard }], guard := some (8, false) })) (v := undef) rfl (by kernel_rfl) (by kernel_rfl) (by kernel_rfl) (fun _ _ _ h => h) (Or.inr ⟨by rfl, rfl⟩) (by assumption) ?_
            try simp only [Act.put, List.setIfInBounds_toArray, List.set_cons_zero, List.set_cons_succ]
            refine wpAnyH_take (i := 11) (oi := ({ dst := some 64, op := Op.call { callee := Callee.value (Operand.func 49), args := #[Operand.tmp 62, Operand.tmp 63], argTypes := #[53, 53] }, type := 4, pos := "law.go:55", after := #[{ on := 9, ground := Ground.data }, { on := 10, ground := Ground.data }, { on := 8, ground := Ground.chain }, { on := 8, ground := Ground.guard }], guard := some (8, false) })) (v := undef) rfl (by kernel_rfl) (by kernel_rfl) (by kernel_rfl) (fun _ _ _ h => h) (Or.inr ⟨by rfl, rfl⟩) (by assumption) ?_
            try simp only [Act.put, List.setIfInBounds_toArray, List.set_cons_zero, List.set_cons_succ]
            refine wpAnyH_take (i := 13) (oi := ({ dst := some 66, op := Op.binOp BinOp.eql 4 (Operand.tmp 64) (Operand.tmp 65) 4, type := 4, pos := "law.go:55", after := #[{ on := 11, ground := Ground.data }, { on := 12, ground := Ground.data }, { on := 8, ground := Ground.guard }], guard := some (8, false) })) (v := undef) rfl (by kernel_rfl) (by kernel_rfl) (by kernel_rfl) (fun _ _ _ h => h) (Or.inr ⟨by rfl, rfl⟩) (by assumption) ?_
            try simp only [Act.put, List.setIfInBounds_toArray, List.set_cons_zero, List.set_cons_succ]
            refine wpAnyH_take (i := 14) (oi := ({ dst := some 67, op := Op.pick (Operand.tmp 61) (Operand.const (Value.bool true)) (Operand.tmp 66), type := 4, pos := "law.go:55", after := #[{ on := 8, ground := Ground.data }, { on := 13, ground := Ground.data }], guard := none })) (v := (.bool true)) rfl (by kernel_rfl) (by kernel_rfl) (by kernel_rfl) (fun _ _ _ h => h) (Or.inl ⟨by rfl, ?_⟩) (by assumption) ?_
            · (intro w hSw; (try dsimp only at hSw); go_simp)
            try simp only [Act.put, List.setIfInBounds_toArray, List.set_cons_zero, List.set_cons_succ]
            refine wpAnyH_take (i := 15) (oi := ({ dst := some 68, op := Op.move (Operand.tmp 67), type := 4, pos := "law.go:55", after := #[{ on := 14, ground := Ground.data }, { on := 11, ground := Ground.chain }], guard := none })) (v := (.bool true)) rfl (by kernel_rfl) (by kernel_rfl) (by kernel_rfl) (fun _ _ _ h => h) (Or.inl ⟨by rfl, ?_⟩) (by assumption) ?_
            · (intro w hSw; (try dsimp only at hSw); go_simp)
            try simp only [Act.put, List.setIfInBounds_toArray, List.set_cons_zero, List.set_cons_succ]
            refine wpAnyH_take (i := 16) (oi := ({ dst := some 69, op := Op.load 53 (Operand.tmp 2), type := 53, pos := "law.go:55", after := #[{ on := 15, ground := Ground.guard }], guard := some (15, true) })) (v := (.agg #[.int .i64 a0, .int .i64 a1, .int .i64 a2])) rfl (by kernel_rfl) (by kernel_rfl) (by kernel_rfl) (fun _ _ _ h => h) (Or.inl ⟨by rfl, ?_⟩) (by assumption) ?_
            · (intro w hSw; (try dsimp only at hSw); go_simp)
            try simp only [Act.put, List.setIfInBounds_toArray, List.set_cons_zero, List.set_cons_succ]
            refine wpAnyH_take (i := 17) (oi := ({ dst := some 70, op := Op.load 53 (Operand.tmp 3), type := 53, pos := "law.go:55", after := #[{ on := 15, ground := Ground.guard }], guard := some (15, true) })) (v := (.agg #[.int .i64 b0, .int .i64 b1, .int .i64 b2])) rfl (by kernel_rfl) (by kernel_rfl) (by kernel_rfl) (fun _ _ _ h => h) (Or.inl ⟨by rfl, ?_⟩) (by assumption) ?_
            · (intro w hSw; (try dsimp only at hSw); go_simp)
            try simp only [Act.put, List.setIfInBounds_toArray, List.set_cons_zero, List.set_cons_succ]
            refine wpAnyH_take (i := 18) (oi := ({ dst := some 71, op := Op.binOp BinOp.eql 53 (Operand.tmp 69) (Operand.tmp 70) 53, type := 4, pos := "law.go:55", after := #[{ on := 16, ground := Ground.data }, { on := 17, ground := Ground.data }, { on := 15, ground := Ground.guard }], guard := some (15, true) })) (v := (.bool true)) rfl (by kernel_rfl) (by kernel_rfl) (by kernel_rfl) (fun _ _ _ h => h) (Or.inl ⟨by rfl, ?_⟩) (by assumption) ?_
            · (intro w hSw; (try dsimp only at hSw); go_simp)
            try simp only [Act.put, List.setIfInBounds_toArray, List.set_cons_zero, List.set_cons_succ]
            refine wpAnyH_take (i := 19) (oi := ({ dst := some 72, op := Op.move (Operand.tmp 71), type := 4, pos := "law.go:55", after := #[{ on := 18, ground := Ground.data }, { on := 15, ground := Ground.chain }, { on := 15, ground := Ground.guard }], guard := some (15, true) })) (v := (.bool true)) rfl (by kernel_rfl) (by kernel_rfl) (by kernel_rfl) (fun _ _ _ h => h) (Or.inl ⟨by rfl, ?_⟩) (by assumption) ?_
            · (intro w hSw; (try dsimp only at hSw); go_simp)
            try simp only [Act.put, List.setIfInBounds_toArray, List.set_cons_zero, List.set_cons_succ]
            refine wpAnyH_take (i := 20) (oi := ({ dst := some 73, op := Op.load 53 (Operand.tmp 2), type := 53, pos := "law.go:55", after := #[{ on := 19, ground := Ground.guard }], guard := some (19, false) })) (v := undef) rfl (by kernel_rfl) (by kernel_rfl) (by kernel_rfl) (fun _ _ _ h => h) (Or.inr ⟨by rfl, rfl⟩) (by assumption) ?_
            try simp only [Act.put, List.setIfInBounds_toArray, List.set_cons_zero, List.set_cons_succ]
            refine wpAnyH_take (i := 21) (oi := ({ dst := some 74, op := Op.load 53 (Operand.tmp 3), type := 53, pos := "law.go:55", after := #[{ on := 19, ground := Ground.guard }], guard := some (19, false) })) (v := undef) rfl (by kernel_rfl) (by kernel_rfl) (by kernel_rfl) (fun _ _ _ h => h) (Or.inr ⟨by rfl, rfl⟩) (by assumption) ?_
            try simp only [Act.put, List.setIfInBounds_toArray, List.set_cons_zero, List.set_cons_succ]
            refine wpAnyH_take (i := 23) (oi := ({ dst := some 76, op := Op.load 53 (Operand.tmp 3), type := 53, pos := "law.go:55", after := #[{ on := 19, ground := Ground.guard }], guard := some (19, false) })) (v := undef) rfl (by kernel_rfl) (by kernel_rfl) (by kernel_rfl) (fun _ _ _ h => h) (Or.inr ⟨by rfl, rfl⟩) (by assumption) ?_
            try simp only [Act.put, List.setIfInBounds_toArray, List.set_cons_zero, List.set_cons_succ]
            refine wpAnyH_take (i := 24) (oi := ({ dst := some 77, op := Op.load 53 (Operand.tmp 2), type := 53, pos := "law.go:55", after := #[{ on := 19, ground := Ground.guard }], guard := some (19, false) })) (v := undef) rfl (by kernel_rfl) (by kernel_rfl) (by kernel_rfl) (fun _ _ _ h => h) (Or.inr ⟨by rfl, rfl⟩) (by assumption) ?_
            try simp only [Act.put, List.setIfInBounds_toArray, List.set_cons_zero, List.set_cons_succ]
            refine wpAnyH_take (i := 22) (oi := ({ dst := some 75, op := Op.call { callee := Callee.value (Operand.func 51), args := #[Operand.tmp 73, Operand.tmp 74], argTypes := #[53, 53] }, type := 4, pos := "law.go:55", after := #[{ on := 20, ground := Ground.data }, { on := 21, ground := Ground.data }, { on := 19, ground := Ground.chain }, { on := 19, ground := Ground.guard }], guard := some (19, false) })) (v := undef) rfl (by kernel_rfl) (by kernel_rfl) (by kernel_rfl) (fun _ _ _ h => h) (Or.inr ⟨by rfl, rfl⟩) (by assumption) ?_
            try simp only [Act.put, List.setIfInBounds_toArray, List.set_cons_zero, List.set_cons_succ]
            refine wpAnyH_take (i := 25) (oi := ({ dst := some 78, op := Op.call { callee := Callee.value (Operand.func 51), args := #[Operand.tmp 76, Operand.tmp 77], argTypes := #[53, 53] }, type := 4, pos := "law.go:55", after := #[{ on := 23, ground := Ground.data }, { on := 24, ground := Ground.data }, { on := 22, ground := Ground.chain }, { on := 19, ground := Ground.guard }], guard := some (19, false) })) (v := undef) rfl (by kernel_rfl) (by kernel_rfl) (by kernel_rfl) (fun _ _ _ h => h) (Or.inr ⟨by rfl, rfl⟩) (by assumption) ?_
            try simp only [Act.put, List.setIfInBounds_toArray, List.set_cons_zero, List.set_cons_succ]
            refine wpAnyH_take (i := 26) (oi := ({ dst := some 79, op := Op.binOp BinOp.neq 4 (Operand.tmp 75) (Operand.tmp 78) 4, type := 4, pos := "law.go:55", after := #[{ on := 22, ground := Ground.data }, { on := 25, ground := Ground.data }, { on := 19, ground := Ground.guard }], guard := some (19, false) })) (v := undef) rfl (by kernel_rfl) (by kernel_rfl) (by kernel_rfl) (fun _ _ _ h => h) (Or.inr ⟨by rfl, rfl⟩) (by assumption) ?_
            try simp only [Act.put, List.setIfInBounds_toArray, List.set_cons_zero, List.set_cons_succ]
            refine wpAnyH_take (i := 27) (oi := ({ dst := some 80, op := Op.pick (Operand.tmp 72) (Operand.const (Value.bool true)) (Operand.tmp 79), type := 4, pos := "law.go:55", after := #[{ on := 19, ground := Ground.data }, { on := 26, ground := Ground.data }, { on := 15, ground := Ground.guard }], guard := some (15, true) })) (v := (.bool true)) rfl (by kernel_rfl) (by kernel_rfl) (by kernel_rfl) (fun _ _ _ h => h) (Or.inl ⟨by rfl, ?_⟩) (by assumption) ?_
            · (intro w hSw; (try dsimp only at hSw); go_simp)
            try simp only [Act.put, List.setIfInBounds_toArray, List.set_cons_zero, List.set_cons_succ]
            refine wpAnyH_take (i := 28) (oi := ({ dst := some 81, op := Op.pick (Operand.tmp 68) (Operand.tmp 80) (Operand.const (Value.bool false)), type := 4, pos := "law.go:55", after := #[{ on := 15, ground := Ground.data }, { on := 27, ground := Ground.data }], guard := none })) (v := (.bool true)) rfl (by kernel_rfl) (by kernel_rfl) (by kernel_rfl) (fun _ _ _ h => h) (Or.inl ⟨by rfl, ?_⟩) (by assumption) ?_
            · (intro w hSw; (try dsimp only at hSw); go_simp)
            try simp only [Act.put, List.setIfInBounds_toArray, List.set_cons_zero, List.set_cons_succ]
            refine wpAnyH_take (i := 29) (oi := ({ dst := some 82, op := Op.move (Operand.tmp 81), type := 4, pos := "law.go:55", after := #[{ on := 28, ground := Ground.data }, { on := 25, ground := Ground.chain }], guard := none })) (v := (.bool true)) rfl (by kernel_rfl) (by kernel_rfl) (by kernel_rfl) (fun _ _ _ h => h) (Or.inl ⟨by rfl, ?_⟩) (by assumption) ?_
            · (intro w hSw; (try dsimp only at hSw); go_simp)
            try simp only [Act.put, List.setIfInBounds_toArray, List.set_cons_zero, List.set_cons_succ]
            refine wpAnyH_take (i := 30) (oi := ({ dst := some 83, op := Op.load 53 (Operand.tmp 2), type := 53, pos := "law.go:55", after := #[{ on := 29, ground := Ground.guard }], guard := some (29, true) })) (v := (.agg #[.int .i64 a0, .int .i64 a1, .int .i64 a2])) rfl (by kernel_rfl) (by kernel_rfl) (by kernel_rfl) (fun _ _ _ h => h) (Or.inl ⟨by rfl, ?_⟩) (by assumption) ?_
            · (intro w hSw; (try dsimp only at hSw); go_simp)
            try simp only [Act.put, List.setIfInBounds_toArray, List.set_cons_zero, List.set_cons_succ]
            refine wpAnyH_take (i := 31) (oi := ({ dst := some 84, op := Op.load 53 (Operand.tmp 2), type := 53, pos := "law.go:55", after := #[{ on := 29, ground := Ground.guard }], guard := some (29, true) })) (v := (.agg #[.int .i64 a0, .int .i64 a1, .int .i64 a2])) rfl (by kernel_rfl) (by kernel_rfl) (by kernel_rfl) (fun _ _ _ h => h) (Or.inl ⟨by rfl, ?_⟩) (by assumption) ?_
            · (intro w hSw; (try dsimp only at hSw); go_simp)
            try simp only [Act.put, List.setIfInBounds_toArray, List.set_cons_zero, List.set_cons_succ]
            refine wpAnyH_ready (rs := [32]) (by kernel_rfl) (by simp) (AllReadyH.cons (o := ({ dst := some 85, op := Op.call { callee := Callee.value (Operand.func 51), args := #[Operand.tmp 83, Operand.tmp 84], argTypes := #[53, 53] }, type := 4, pos := "law.go:55", after := #[{ on := 30, ground := Ground.data }, { on := 31, ground := Ground.data }, { on := 29, ground := Ground.chain }, { on := 29, ground := Ground.guard }], guard := some (29, true) })) rfl (fun K hK => ?_) AllReadyH.nil)
            go_simp
            refine (HLS.out _).mono ?_
            rintro e wc ⟨rfl, hbq⟩
            replace hw := hw.trans (Below.mono (by exact ⟨hbq.os, hbq.tape, hbq.output, hbq.size, hbq.block⟩) hw.size)
            clear hbq
            go_wp2_with fail
            clear hHeld
            refine hK.out _ _ ⟨keepB hw Ad0 Al, keepB hw Ad1 Al, keepB hw Ad2 Al, keepB hw Bd0 Bl, keepB hw Bd1 Bl, keepB hw Bd2 Bl⟩ (fun hHeld => ?_)
            clear hK K
            try simp only [Act.put, List.setIfInBounds_toArray, List.set_cons_zero, List.set_cons_succ]
            refine wpAnyH_take (i := 33) (oi := ({ dst := some 86, op := Op.unOp UnOp.not 4 (Operand.tmp 85), type := 4, pos := "law.go:55", after := #[{ on := 32, ground := Ground.data }, { on := 29, ground := Ground.guard }], guard := some (29, true) })) (v := (.bool true)) rfl (by kernel_rfl) (by kernel_rfl) (by kernel_rfl) (fun _ _ _ h => h) (Or.inl ⟨by rfl, ?_⟩) (by assumption) ?_
            · (intro w hSw; (try dsimp only at hSw); go_simp)
            try simp only [Act.put, List.setIfInBounds_toArray, List.set_cons_zero, List.set_cons_succ]
            refine wpAnyH_take (i := 34) (oi := ({ dst := some 87, op := Op.pick (Operand.tmp 82) (Operand.tmp 86) (Operand.const (Value.bool false)), type := 4, pos := "law.go:55", after := #[{ on := 29, ground := Ground.data }, { on := 33, ground := Ground.data }], guard := none })) (v := (.bool true)) rfl (by kernel_rfl) (by kernel_rfl) (by kernel_rfl) (fun _ _ _ h => h) (Or.inl ⟨by rfl, ?_⟩) (by assumption) ?_
            · (intro w hSw; (try dsimp only at hSw); go_simp)
            try simp only [Act.put, List.setIfInBounds_toArray, List.set_cons_zero, List.set_cons_succ]
            refine wpAnyH_take (i := 35) (oi := ({ dst := some 88, op := Op.move (Operand.tmp 87), type := 4, pos := "law.go:55", after := #[{ on := 34, ground := Ground.data }, { on := 32, ground := Ground.chain }], guard := none })) (v := (.bool true)) rfl (by kernel_rfl) (by kernel_rfl) (by kernel_rfl) (fun _ _ _ h => h) (Or.inl ⟨by rfl, ?_⟩) (by assumption) ?_
            · (intro w hSw; (try dsimp only at hSw); go_simp)
            try simp only [Act.put, List.setIfInBounds_toArray, List.set_cons_zero, List.set_cons_succ]
            refine wpAnyH_ready (rs := [36]) (by kernel_rfl) (by simp) (AllReadyH.cons (o := ({ dst := some 89, op := Op.call { callee := Callee.value (Operand.func 55), args := #[], argTypes := #[] }, type := 4, pos := "law.go:55", after := #[{ on := 35, ground := Ground.chain }, { on := 35, ground := Ground.guard }], guard := some (35, true) })) rfl (fun K hK => ?_) AllReadyH.nil)
            go_simp
            refine (AW.out _ (LL.out.below (by exact ⟨hw.os, hw.tape, hw.output, hw.size, hw.block⟩))).mono ?_
            rintro e wc ⟨rfl, hbq⟩
            replace hw := hw.trans (Below.mono (by exact ⟨hbq.os, hbq.tape, hbq.output, hbq.size, hbq.block⟩) hw.size)
            clear hbq
            go_wp2_with fail
            clear hHeld
            refine hK.out _ _ ⟨keepB hw Ad0 Al, keepB hw Ad1 Al, keepB hw Ad2 Al, keepB hw Bd0 Bl, keepB hw Bd1 Bl, keepB hw Bd2 Bl⟩ (fun hHeld => ?_)
            clear hK K
            try simp only [Act.put, List.setIfInBounds_toArray, List.set_cons_zero, List.set_cons_succ]
            refine wpAnyH_take (i := 37) (oi := ({ dst := some 90, op := Op.pick (Operand.tmp 88) (Operand.tmp 89) (Operand.const (Value.bool false)), type := 4, pos := "law.go:55", after := #[{ on := 35, ground := Ground.data }, { on := 36, ground := Ground.data }], guard := none })) (v := (.bool true)) rfl (by kernel_rfl) (by kernel_rfl) (by kernel_rfl) (fun _ _ _ h => h) (Or.inl ⟨by rfl, ?_⟩) (by assumption) ?_
            · (intro w hSw; (try dsimp only at hSw); go_simp)
            try simp only [Act.put, List.setIfInBounds_toArray, List.set_cons_zero, List.set_cons_succ]
            refine wpAnyH_take (i := 38) (oi := ({ dst := some 4, op := Op.assign (Operand.tmp 90), type := 4, pos := "law.go:55", after := #[{ on := 37, ground := Ground.data }, { on := 36, ground := Ground.chain }, { on := 0, ground := Ground.phase }, { on := 1, ground := Ground.phase }, { on := 2, ground := Ground.phase }, { on := 3, ground := Ground.phase }, { on := 4, ground := Ground.phase }, { on := 5, ground := Ground.phase }, { on := 6, ground := Ground.phase }, { on := 7, ground := Ground.phase }, { on := 8, ground := Ground.phase }, { on := 9, ground := Ground.phase }, { on := 10, ground := Ground.phase }, { on := 11, ground := Ground.phase }, { on := 12, ground := Ground.phase }, { on := 13, ground := Ground.phase }, { on := 14, ground := Ground.phase }, { on := 15, ground := Ground.phase }, { on := 16, ground := Ground.phase }, { on := 17, ground := Ground.phase }, { on := 18, ground := Ground.phase }, { on := 19, ground := Ground.phase }, { on := 20, ground := Ground.phase }, { on := 21, ground := Ground.phase }, { on := 22, ground := Ground.phase }, { on := 23, ground := Ground.phase }, { on := 24, ground := Ground.phase }, { on := 25, ground := Ground.phase }, { on := 26, ground := Ground.phase }, { on := 27, ground := Ground.phase }, { on := 28, ground := Ground.phase }, { on := 29, ground := Ground.phase }, { on := 30, ground := Ground.phase }, { on := 31, ground := Ground.phase }, { on := 32, ground := Ground.phase }, { on := 33, ground := Ground.phase }, { on := 34, ground := Ground.phase }, { on := 35, ground := Ground.phase }, { on := 36, ground := Ground.phase }, { on := 37, ground := Ground.phase }], guard := none })) (v := (.bool true)) rfl (by kernel_rfl) (by kernel_rfl) (by kernel_rfl) (fun _ _ _ h => h) (Or.inl ⟨by rfl, ?_⟩) (by assumption) ?_
            · (intro w hSw; (try dsimp only at hSw); go_simp)
            try simp only [Act.put, List.setIfInBounds_toArray, List.set_cons_zero, List.set_cons_succ]
            refine wpAnyH_done (by kernel_rfl) ?_ _
            clear hHeld
            have KL9 := Lib.hid (KL.out.trans (hw.mono (by have := KL.out.size; have := HN.out; omega)))
            go_wp2_with fail
            go_ret
            exact ⟨rfl, KL9.out⟩
          | true =>
            obtain rfl : f = r := HF.out (by first | rfl | trivial) (by first | rfl | trivial)
            have Ad0 := KA.out.cell (i := 0) rfl
            have Ad1 := KA.out.cell (i := 1) rfl
            have Ad2 := KA.out.cell (i := 2) rfl
            have Bd0 := KB.out.cell (i := 0) rfl
            have Bd1 := KB.out.cell (i := 1) rfl
            have Bd2 := KB.out.cell (i := 2) rfl
            have Al := KA.out.lt
            have Bl := KB.out.lt
            have hw := below_self KL.out
            refine wp_region_held_drew (S := (fun w' => w'.cell? ⟨n, 0, none⟩ = some (.int .i64 a0) ∧ w'.cell? ⟨n, 1, none⟩ = some (.int .i64 a1) ∧ w'.cell? ⟨n, 2, none⟩ = some (.int .i64 a2) ∧ w'.cell? ⟨(n + 1), 0, none⟩ = some (.int .i64 b0) ∧ w'.cell? ⟨(n + 1), 1, none⟩ = some (.int .i64 b1) ∧ w'.cell? ⟨(n + 1), 2, none⟩ = some (.int .i64 b2))) (by kernel_rfl) ⟨KA.out.drew.cell (i := 0) rfl, KA.out.drew.cell (i := 1) rfl, KA.out.drew.cell (i := 2) rfl, KB.out.drew.cell (i := 0) rfl, KB.out.drew.cell (i := 1) rfl, KB.out.drew.cell (i := 2) rfl⟩ (fun hHeld => ?_)
            refine wpAnyH_take (i := 0) (oi := ({ dst := some 53, op := Op.load 53 (Operand.tmp 2), type := 53, pos := "law.go:55", after := #[], guard := none })) (v := (.agg #[.int .i64 a0, .int .i64 a1, .int .i64 a2])) rfl (by kernel_rfl) (by kernel_rfl) (by kernel_rfl) (fun _ _ _ h => h) (Or.inl ⟨by rfl, ?_⟩) (by assumption) ?_
            · (intro w hSw; (try dsimp only at hSw); go_simp)
            try simp only [Act.put, List.setIfInBounds_toArray, List.set_cons_zero, List.set_cons_succ]
            refine wpAnyH_ready (rs := [1]) (by kernel_rfl) (by simp) (AllReadyH.cons (o := ({ dst := some 54, op := Op.call { callee := Callee.value (Operand.func 47), args := #[Operand.tmp 53], argTypes := #[53] }, type := 4, pos := "law.go:55", after := #[{ on := 0, ground := Ground.data }], guard := none })) rfl (fun K hK => ?_) AllReadyH.nil)
            go_simp
            refine (HRA.out _).mono ?_
            rintro e wc ⟨rfl, hbq⟩
            replace hw := hw.trans (Below.mono (by exact ⟨hbq.os, hbq.tape, hbq.output, hbq.size, hbq.block⟩) hw.size)
            clear hbq
            go_wp2_with fail
            clear hHeld
            refine hK.out _ _ ⟨keepB hw Ad0 Al, keepB hw Ad1 Al, keepB hw Ad2 Al, keepB hw Bd0 Bl, keepB hw Bd1 Bl, keepB hw Bd2 Bl⟩ (fun hHeld => ?_)
            clear hK K
            try simp only [Act.put, List.setIfInBounds_toArray, List.set_cons_zero, List.set_cons_succ]
            refine wpAnyH_take (i := 2) (oi := ({ dst := some 55, op := Op.unOp UnOp.not 4 (Operand.tmp 54), type := 4, pos := "law.go:55", after := #[{ on := 1, ground := Ground.data }], guard := none })) (v := (.bool false)) rfl (by kernel_rfl) (by kernel_rfl) (by kernel_rfl) (fun _ _ _ h => h) (Or.inl ⟨by rfl, ?_⟩) (by assumption) ?_
            · (intro w hSw; (try dsimp only at hSw); go_simp)
            try simp only [Act.put, List.setIfInBounds_toArray, List.set_cons_zero, List.set_cons_succ]
            refine wpAnyH_take (i := 3) (oi := ({ dst := some 56, op := Op.move (Operand.tmp 55), type := 4, pos := "law.go:55", after := #[{ on := 2, ground := Ground.data }, { on := 1, ground := Ground.chain }], guard := none })) (v := (.bool false)) rfl (by kernel_rfl) (by kernel_rfl) (by kernel_rfl) (fun _ _ _ h => h) (Or.inl ⟨by rfl, ?_⟩) (by assumption) ?_
            · (intro w hSw; (try dsimp only at hSw); go_simp)
            try simp only [Act.put, List.setIfInBounds_toArray, List.set_cons_zero, List.set_cons_succ]
            refine wpAnyH_take (i := 4) (oi := ({ dst := some 57, op := Op.load 53 (Operand.tmp 3), type := 53, pos := "law.go:55", after := #[{ on := 3, ground := Ground.guard }], guard := some (3, false) })) (v := (.agg #[.int .i64 b0, .int .i64 b1, .int .i64 b2])) rfl (by kernel_rfl) (by kernel_rfl) (by kernel_rfl) (fun _ _ _ h => h) (Or.inl ⟨by rfl, ?_⟩) (by assumption) ?_
            · (intro w hSw; (try dsimp only at hSw); go_simp)
            try simp only [Act.put, List.setIfInBounds_toArray, List.set_cons_zero, List.set_cons_succ]
            refine wpAnyH_ready (rs := [5]) (by kernel_rfl) (by simp) (AllReadyH.cons (o := ({ dst := some 58, op := Op.call { callee := Callee.value (Operand.func 47), args := #[Operand.tmp 57], argTypes := #[53] }, type := 4, pos := "law.go:55", after := #[{ on := 4, ground := Ground.data }, { on := 3, ground := Ground.chain }, { on := 3, ground := Ground.guard }], guard := some (3, false) })) rfl (fun K hK => ?_) AllReadyH.nil)
            go_simp
            refine (HRB.out _).mono ?_
            rintro e wc ⟨rfl, hbq⟩
            replace hw := hw.trans (Below.mono (by exact ⟨hbq.os, hbq.tape, hbq.output, hbq.size, hbq.block⟩) hw.size)
            clear hbq
            go_wp2_with fail
            clear hHeld
            refine hK.out _ _ ⟨keepB hw Ad0 Al, keepB hw Ad1 Al, keepB hw Ad2 Al, keepB hw Bd0 Bl, keepB hw Bd1 Bl, keepB hw Bd2 Bl⟩ (fun hHeld => ?_)
            clear hK K
            try simp only [Act.put, List.setIfInBounds_toArray, List.set_cons_zero, List.set_cons_succ]
            refine wpAnyH_take (i := 6) (oi := ({ dst := some 59, op := Op.unOp UnOp.not 4 (Operand.tmp 58), type := 4, pos := "law.go:55", after := #[{ on := 5, ground := Ground.data }, { on := 3, ground := Ground.guard }], guard := some (3, false) })) (v := (.bool false)) rfl (by kernel_rfl) (by kernel_rfl) (by kernel_rfl) (fun _ _ _ h => h) (Or.inl ⟨by rfl, ?_⟩) (by assumption) ?_
            · (intro w hSw; (try dsimp only at hSw); go_simp)
            try simp only [Act.put, List.setIfInBounds_toArray, List.set_cons_zero, List.set_cons_succ]
            refine wpAnyH_take (i := 7) (oi := ({ dst := some 60, op := Op.pick (Operand.tmp 56) (Operand.const (Value.bool true)) (Operand.tmp 59), type := 4, pos := "law.go:55", after := #[{ on := 3, ground := Ground.data }, { on := 6, ground := Ground.data }], guard := none })) (v := (.bool false)) rfl (by kernel_rfl) (by kernel_rfl) (by kernel_rfl) (fun _ _ _ h => h) (Or.inl ⟨by rfl, ?_⟩) (by assumption) ?_
            · (intro w hSw; (try dsimp only at hSw); go_simp)
            try simp only [Act.put, List.setIfInBounds_toArray, List.set_cons_zero, List.set_cons_succ]
            refine wpAnyH_take (i := 8) (oi := ({ dst := some 61, op := Op.move (Operand.tmp 60), type := 4, pos := "law.go:55", after := #[{ on := 7, ground := Ground.data }, { on := 5, ground := Ground.chain }], guard := none })) (v := (.bool false)) rfl (by kernel_rfl) (by kernel_rfl) (by kernel_rfl) (fun _ _ _ h => h) (Or.inl ⟨by rfl, ?_⟩) (by assumption) ?_
            · (intro w hSw; (try dsimp only at hSw); go_simp)
            try simp only [Act.put, List.setIfInBounds_toArray, List.set_cons_zero, List.set_cons_succ]
            refine wpAnyH_take (i := 9) (oi := ({ dst := some 62, op := Op.load 53 (Operand.tmp 3), type := 53, pos := "law.go:55", after := #[{ on := 8, ground := Ground.guard }], guard := some (8, false) })) (v := (.agg #[.int .i64 b0, .int .i64 b1, .int .i64 b2])) rfl (by kernel_rfl) (by kernel_rfl) (by kernel_rfl) (fun _ _ _ h => h) (Or.inl ⟨by rfl, ?_⟩) (by assumption) ?_
            · (intro w hSw; (try dsimp only at hSw); go_simp)
            try simp only [Act.put, List.setIfInBounds_toArray, List.set_cons_zero, List.set_cons_succ]
            refine wpAnyH_take (i := 10) (oi := ({ dst := some 63, op := Op.load 53 (Operand.tmp 2), type := 53, pos := "law.go:55", after := #[{ on := 8, ground := Ground.guard }], guard := some (8, false) })) (v := (.agg #[.int .i64 a0, .int .i64 a1, .int .i64 a2])) rfl (by kernel_rfl) (by kernel_rfl) (by kernel_rfl) (fun _ _ _ h => h) (Or.inl ⟨by rfl, ?_⟩) (by assumption) ?_
            · (intro w hSw; (try dsimp only at hSw); go_simp)
            try simp only [Act.put, List.setIfInBounds_toArray, List.set_cons_zero, List.set_cons_succ]
            refine wpAnyH_take (i := 12) (oi := ({ dst := some 65, op := Op.move (Operand.tmp 10), type := 4, pos := "law.go:55", after := #[{ on := 8, ground := Ground.guard }], guard := some (8, false) })) (v := (.bool f)) rfl (by kernel_rfl) (by kernel_rfl) (by kernel_rfl) (fun _ _ _ h => h) (Or.inl ⟨by rfl, ?_⟩) (by assumption) ?_
            · (intro w hSw; (try dsimp only at hSw); go_simp)
            try simp only [Act.put, List.setIfInBounds_toArray, List.set_cons_zero, List.set_cons_succ]
            refine wpAnyH_ready (rs := [11]) (by kernel_rfl) (by simp) (AllReadyH.cons (o := ({ dst := some 64, op := Op.call { callee := Callee.value (Operand.func 49), args := #[Operand.tmp 62, Operand.tmp 63], argTypes := #[53, 53] }, type := 4, pos := "law.go:55", after := #[{ on := 9, ground := Ground.data }, { on := 10, ground := Ground.data }, { on := 8, ground := Ground.chain }, { on := 8, ground := Ground.guard }], guard := some (8, false) })) rfl (fun K hK => ?_) AllReadyH.nil)
            go_simp
            refine (HFIT.out _).mono ?_
            rintro e wc ⟨rfl, hbq⟩
            replace hw := hw.trans (Below.mono (by exact ⟨hbq.os, hbq.tape, hbq.output, hbq.size, hbq.block⟩) hw.size)
            clear hbq
            go_wp2_with fail
            clear hHeld
            refine hK.out _ _ ⟨keepB hw Ad0 Al, keepB hw Ad1 Al, keepB hw Ad2 Al, keepB hw Bd0 Bl, keepB hw Bd1 Bl, keepB hw Bd2 Bl⟩ (fun hHeld => ?_)
            clear hK K
            try simp only [Act.put, List.setIfInBounds_toArray, List.set_cons_zero, List.set_cons_succ]
            refine wpAnyH_take (i := 13) (oi := ({ dst := some 66, op := Op.binOp BinOp.eql 4 (Operand.tmp 64) (Operand.tmp 65) 4, type := 4, pos := "law.go:55", after := #[{ on := 11, ground := Ground.data }, { on := 12, ground := Ground.data }, { on := 8, ground := Ground.guard }], guard := some (8, false) })) (v := (.bool true)) rfl (by kernel_rfl) (by kernel_rfl) (by kernel_rfl) (fun _ _ _ h => h) (Or.inl ⟨by rfl, ?_⟩) (by assumption) ?_
            · (intro w hSw; (try dsimp only at hSw); go_simp)
            try simp only [Act.put, List.setIfInBounds_toArray, List.set_cons_zero, List.set_cons_succ]
            refine wpAnyH_take (i := 14) (oi := ({ dst := some 67, op := Op.pick (Operand.tmp 61) (Operand.const (Value.bool true)) (Operand.tmp 66), type := 4, pos := "law.go:55", after := #[{ on := 8, ground := Ground.data }, { on := 13, ground := Ground.data }], guard := none })) (v := (.bool true)) rfl (by kernel_rfl) (by kernel_rfl) (by kernel_rfl) (fun _ _ _ h => h) (Or.inl ⟨by rfl, ?_⟩) (by assumption) ?_
            · (intro w hSw; (try dsimp only at hSw); go_simp)
            try simp only [Act.put, List.setIfInBounds_toArray, List.set_cons_zero, List.set_cons_succ]
            refine wpAnyH_take (i := 15) (oi := ({ dst := some 68, op := Op.move (Operand.tmp 67), type := 4, pos := "law.go:55", after := #[{ on := 14, ground := Ground.data }, { on := 11, ground := Ground.chain }], guard := none })) (v := (.bool true)) rfl (by kernel_rfl) (by kernel_rfl) (by kernel_rfl) (fun _ _ _ h => h) (Or.inl ⟨by rfl, ?_⟩) (by assumption) ?_
            · (intro w hSw; (try dsimp only at hSw); go_simp)
            try simp only [Act.put, List.setIfInBounds_toArray, List.set_cons_zero, List.set_cons_succ]
            refine wpAnyH_take (i := 16) (oi := ({ dst := some 69, op := Op.load 53 (Operand.tmp 2), type := 53, pos := "law.go:55", after := #[{ on := 15, ground := Ground.guard }], guard := some (15, true) })) (v := (.agg #[.int .i64 a0, .int .i64 a1, .int .i64 a2])) rfl (by kernel_rfl) (by kernel_rfl) (by kernel_rfl) (fun _ _ _ h => h) (Or.inl ⟨by rfl, ?_⟩) (by assumption) ?_
            · (intro w hSw; (try dsimp only at hSw); go_simp)
            try simp only [Act.put, List.setIfInBounds_toArray, List.set_cons_zero, List.set_cons_succ]
            refine wpAnyH_take (i := 17) (oi := ({ dst := some 70, op := Op.load 53 (Operand.tmp 3), type := 53, pos := "law.go:55", after := #[{ on := 15, ground := Ground.guard }], guard := some (15, true) })) (v := (.agg #[.int .i64 b0, .int .i64 b1, .int .i64 b2])) rfl (by kernel_rfl) (by kernel_rfl) (by kernel_rfl) (fun _ _ _ h => h) (Or.inl ⟨by rfl, ?_⟩) (by assumption) ?_
            · (intro w hSw; (try dsimp only at hSw); go_simp)
            try simp only [Act.put, List.setIfInBounds_toArray, List.set_cons_zero, List.set_cons_succ]
            refine wpAnyH_take (i := 18) (oi := ({ dst := some 71, op := Op.binOp BinOp.eql 53 (Operand.tmp 69) (Operand.tmp 70) 53, type := 4, pos := "law.go:55", after := #[{ on := 16, ground := Ground.data }, { on := 17, ground := Ground.data }, { on := 15, ground := Ground.guard }], guard := some (15, true) })) (v := (.bool true)) rfl (by kernel_rfl) (by kernel_rfl) (by kernel_rfl) (fun _ _ _ h => h) (Or.inl ⟨by rfl, ?_⟩) (by assumption) ?_
            · (intro w hSw; (try dsimp only at hSw); go_simp)
            try simp only [Act.put, List.setIfInBounds_toArray, List.set_cons_zero, List.set_cons_succ]
            refine wpAnyH_take (i := 19) (oi := ({ dst := some 72, op := Op.move (Operand.tmp 71), type := 4, pos := "law.go:55", after := #[{ on := 18, ground := Ground.data }, { on := 15, ground := Ground.chain }, { on := 15, ground := Ground.guard }], guard := some (15, true) })) (v := (.bool true)) rfl (by kernel_rfl) (by kernel_rfl) (by kernel_rfl) (fun _ _ _ h => h) (Or.inl ⟨by rfl, ?_⟩) (by assumption) ?_
            · (intro w hSw; (try dsimp only at hSw); go_simp)
            try simp only [Act.put, List.setIfInBounds_toArray, List.set_cons_zero, List.set_cons_succ]
            refine wpAnyH_take (i := 20) (oi := ({ dst := some 73, op := Op.load 53 (Operand.tmp 2), type := 53, pos := "law.go:55", after := #[{ on := 19, ground := Ground.guard }], guard := some (19, false) })) (v := undef) rfl (by kernel_rfl) (by kernel_rfl) (by kernel_rfl) (fun _ _ _ h => h) (Or.inr ⟨by rfl, rfl⟩) (by assumption) ?_
            try simp only [Act.put, List.setIfInBounds_toArray, List.set_cons_zero, List.set_cons_succ]
            refine wpAnyH_take (i := 21) (oi := ({ dst := some 74, op := Op.load 53 (Operand.tmp 3), type := 53, pos := "law.go:55", after := #[{ on := 19, ground := Ground.guard }], guard := some (19, false) })) (v := undef) rfl (by kernel_rfl) (by kernel_rfl) (by kernel_rfl) (fun _ _ _ h => h) (Or.inr ⟨by rfl, rfl⟩) (by assumption) ?_
            try simp only [Act.put, List.setIfInBounds_toArray, List.set_cons_zero, List.set_cons_succ]
            refine wpAnyH_take (i := 23) (oi := ({ dst := some 76, op := Op.load 53 (Operand.tmp 3), type := 53, pos := "law.go:55", after := #[{ on := 19, ground := Ground.guard }], guard := some (19, false) })) (v := undef) rfl (by kernel_rfl) (by kernel_rfl) (by kernel_rfl) (fun _ _ _ h => h) (Or.inr ⟨by rfl, rfl⟩) (by assumption) ?_
            try simp only [Act.put, List.setIfInBounds_toArray, List.set_cons_zero, List.set_cons_succ]
            refine wpAnyH_take (i := 24) (oi := ({ dst := some 77, op := Op.load 53 (Operand.tmp 2), type := 53, pos := "law.go:55", after := #[{ on := 19, ground := Ground.guard }], guard := some (19, false) })) (v := undef) rfl (by kernel_rfl) (by kernel_rfl) (by kernel_rfl) (fun _ _ _ h => h) (Or.inr ⟨by rfl, rfl⟩) (by assumption) ?_
            try simp only [Act.put, List.setIfInBounds_toArray, List.set_cons_zero, List.set_cons_succ]
            refine wpAnyH_take (i := 22) (oi := ({ dst := some 75, op := Op.call { callee := Callee.value (Operand.func 51), args := #[Operand.tmp 73, Operand.tmp 74], argTypes := #[53, 53] }, type := 4, pos := "law.go:55", after := #[{ on := 20, ground := Ground.data }, { on := 21, ground := Ground.data }, { on := 19, ground := Ground.chain }, { on := 19, ground := Ground.guard }], guard := some (19, false) })) (v := undef) rfl (by kernel_rfl) (by kernel_rfl) (by kernel_rfl) (fun _ _ _ h => h) (Or.inr ⟨by rfl, rfl⟩) (by assumption) ?_
            try simp only [Act.put, List.setIfInBounds_toArray, List.set_cons_zero, List.set_cons_succ]
            refine wpAnyH_take (i := 25) (oi := ({ dst := some 78, op := Op.call { callee := Callee.value (Operand.func 51), args := #[Operand.tmp 76, Operand.tmp 77], argTypes := #[53, 53] }, type := 4, pos := "law.go:55", after := #[{ on := 23, ground := Ground.data }, { on := 24, ground := Ground.data }, { on := 22, ground := Ground.chain }, { on := 19, ground := Ground.guard }], guard := some (19, false) })) (v := undef) rfl (by kernel_rfl) (by kernel_rfl) (by kernel_rfl) (fun _ _ _ h => h) (Or.inr ⟨by rfl, rfl⟩) (by assumption) ?_
            try simp only [Act.put, List.setIfInBounds_toArray, List.set_cons_zero, List.set_cons_succ]
            refine wpAnyH_take (i := 26) (oi := ({ dst := some 79, op := Op.binOp BinOp.neq 4 (Operand.tmp 75) (Operand.tmp 78) 4, type := 4, pos := "law.go:55", after := #[{ on := 22, ground := Ground.data }, { on := 25, ground := Ground.data }, { on := 19, ground := Ground.guard }], guard := some (19, false) })) (v := undef) rfl (by kernel_rfl) (by kernel_rfl) (by kernel_rfl) (fun _ _ _ h => h) (Or.inr ⟨by rfl, rfl⟩) (by assumption) ?_
            try simp only [Act.put, List.setIfInBounds_toArray, List.set_cons_zero, List.set_cons_succ]
            refine wpAnyH_take (i := 27) (oi := ({ dst := some 80, op := Op.pick (Operand.tmp 72) (Operand.const (Value.bool true)) (Operand.tmp 79), type := 4, pos := "law.go:55", after := #[{ on := 19, ground := Ground.data }, { on := 26, ground := Ground.data }, { on := 15, ground := Ground.guard }], guard := some (15, true) })) (v := (.bool true)) rfl (by kernel_rfl) (by kernel_rfl) (by kernel_rfl) (fun _ _ _ h => h) (Or.inl ⟨by rfl, ?_⟩) (by assumption) ?_
            · (intro w hSw; (try dsimp only at hSw); go_simp)
            try simp only [Act.put, List.setIfInBounds_toArray, List.set_cons_zero, List.set_cons_succ]
            refine wpAnyH_take (i := 28) (oi := ({ dst := some 81, op := Op.pick (Operand.tmp 68) (Operand.tmp 80) (Operand.const (Value.bool false)), type := 4, pos := "law.go:55", after := #[{ on := 15, ground := Ground.data }, { on := 27, ground := Ground.data }], guard := none })) (v := (.bool true)) rfl (by kernel_rfl) (by kernel_rfl) (by kernel_rfl) (fun _ _ _ h => h) (Or.inl ⟨by rfl, ?_⟩) (by assumption) ?_
            · (intro w hSw; (try dsimp only at hSw); go_simp)
            try simp only [Act.put, List.setIfInBounds_toArray, List.set_cons_zero, List.set_cons_succ]
            refine wpAnyH_take (i := 29) (oi := ({ dst := some 82, op := Op.move (Operand.tmp 81), type := 4, pos := "law.go:55", after := #[{ on := 28, ground := Ground.data }, { on := 25, ground := Ground.chain }], guard := none })) (v := (.bool true)) rfl (by kernel_rfl) (by kernel_rfl) (by kernel_rfl) (fun _ _ _ h => h) (Or.inl ⟨by rfl, ?_⟩) (by assumption) ?_
            · (intro w hSw; (try dsimp only at hSw); go_simp)
            try simp only [Act.put, List.setIfInBounds_toArray, List.set_cons_zero, List.set_cons_succ]
            refine wpAnyH_take (i := 30) (oi := ({ dst := some 83, op := Op.load 53 (Operand.tmp 2), type := 53, pos := "law.go:55", after := #[{ on := 29, ground := Ground.guard }], guard := some (29, true) })) (v := (.agg #[.int .i64 a0, .int .i64 a1, .int .i64 a2])) rfl (by kernel_rfl) (by kernel_rfl) (by kernel_rfl) (fun _ _ _ h => h) (Or.inl ⟨by rfl, ?_⟩) (by assumption) ?_
            · (intro w hSw; (try dsimp only at hSw); go_simp)
            try simp only [Act.put, List.setIfInBounds_toArray, List.set_cons_zero, List.set_cons_succ]
            refine wpAnyH_take (i := 31) (oi := ({ dst := some 84, op := Op.load 53 (Operand.tmp 2), type := 53, pos := "law.go:55", after := #[{ on := 29, ground := Ground.guard }], guard := some (29, true) })) (v := (.agg #[.int .i64 a0, .int .i64 a1, .int .i64 a2])) rfl (by kernel_rfl) (by kernel_rfl) (by kernel_rfl) (fun _ _ _ h => h) (Or.inl ⟨by rfl, ?_⟩) (by assumption) ?_
            · (intro w hSw; (try dsimp only at hSw); go_simp)
            try simp only [Act.put, List.setIfInBounds_toArray, List.set_cons_zero, List.set_cons_succ]
            refine wpAnyH_ready (rs := [32]) (by kernel_rfl) (by simp) (AllReadyH.cons (o := ({ dst := some 85, op := Op.call { callee := Callee.value (Operand.func 51), args := #[Operand.tmp 83, Operand.tmp 84], argTypes := #[53, 53] }, type := 4, pos := "law.go:55", after := #[{ on := 30, ground := Ground.data }, { on := 31, ground := Ground.data }, { on := 29, ground := Ground.chain }, { on := 29, ground := Ground.guard }], guard := some (29, true) })) rfl (fun K hK => ?_) AllReadyH.nil)
            go_simp
            refine (HLS.out _).mono ?_
            rintro e wc ⟨rfl, hbq⟩
            replace hw := hw.trans (Below.mono (by exact ⟨hbq.os, hbq.tape, hbq.output, hbq.size, hbq.block⟩) hw.size)
            clear hbq
            go_wp2_with fail
            clear hHeld
            refine hK.out _ _ ⟨keepB hw Ad0 Al, keepB hw Ad1 Al, keepB hw Ad2 Al, keepB hw Bd0 Bl, keepB hw Bd1 Bl, keepB hw Bd2 Bl⟩ (fun hHeld => ?_)
            clear hK K
            try simp only [Act.put, List.setIfInBounds_toArray, List.set_cons_zero, List.set_cons_succ]
            refine wpAnyH_take (i := 33) (oi := ({ dst := some 86, op := Op.unOp UnOp.not 4 (Operand.tmp 85), type := 4, pos := "law.go:55", after := #[{ on := 32, ground := Ground.data }, { on := 29, ground := Ground.guard }], guard := some (29, true) })) (v := (.bool true)) rfl (by kernel_rfl) (by kernel_rfl) (by kernel_rfl) (fun _ _ _ h => h) (Or.inl ⟨by rfl, ?_⟩) (by assumption) ?_
            · (intro w hSw; (try dsimp only at hSw); go_simp)
            try simp only [Act.put, List.setIfInBounds_toArray, List.set_cons_zero, List.set_cons_succ]
            refine wpAnyH_take (i := 34) (oi := ({ dst := some 87, op := Op.pick (Operand.tmp 82) (Operand.tmp 86) (Operand.const (Value.bool false)), type := 4, pos := "law.go:55", after := #[{ on := 29, ground := Ground.data }, { on := 33, ground := Ground.data }], guard := none })) (v := (.bool true)) rfl (by kernel_rfl) (by kernel_rfl) (by kernel_rfl) (fun _ _ _ h => h) (Or.inl ⟨by rfl, ?_⟩) (by assumption) ?_
            · (intro w hSw; (try dsimp only at hSw); go_simp)
            try simp only [Act.put, List.setIfInBounds_toArray, List.set_cons_zero, List.set_cons_succ]
            refine wpAnyH_take (i := 35) (oi := ({ dst := some 88, op := Op.move (Operand.tmp 87), type := 4, pos := "law.go:55", after := #[{ on := 34, ground := Ground.data }, { on := 32, ground := Ground.chain }], guard := none })) (v := (.bool true)) rfl (by kernel_rfl) (by kernel_rfl) (by kernel_rfl) (fun _ _ _ h => h) (Or.inl ⟨by rfl, ?_⟩) (by assumption) ?_
            · (intro w hSw; (try dsimp only at hSw); go_simp)
            try simp only [Act.put, List.setIfInBounds_toArray, List.set_cons_zero, List.set_cons_succ]
            refine wpAnyH_ready (rs := [36]) (by kernel_rfl) (by simp) (AllReadyH.cons (o := ({ dst := some 89, op := Op.call { callee := Callee.value (Operand.func 55), args := #[], argTypes := #[] }, type := 4, pos := "law.go:55", after := #[{ on := 35, ground := Ground.chain }, { on := 35, ground := Ground.guard }], guard := some (35, true) })) rfl (fun K hK => ?_) AllReadyH.nil)
            go_simp
            refine (AW.out _ (LL.out.below (by exact ⟨hw.os, hw.tape, hw.output, hw.size, hw.block⟩))).mono ?_
            rintro e wc ⟨rfl, hbq⟩
            replace hw := hw.trans (Below.mono (by exact ⟨hbq.os, hbq.tape, hbq.output, hbq.size, hbq.block⟩) hw.size)
            clear hbq
            go_wp2_with fail
            clear hHeld
            refine hK.out _ _ ⟨keepB hw Ad0 Al, keepB hw Ad1 Al, keepB hw Ad2 Al, keepB hw Bd0 Bl, keepB hw Bd1 Bl, keepB hw Bd2 Bl⟩ (fun hHeld => ?_)
            clear hK K
            try simp only [Act.put, List.setIfInBounds_toArray, List.set_cons_zero, List.set_cons_succ]
            refine wpAnyH_take (i := 37) (oi := ({ dst := some 90, op := Op.pick (Operand.tmp 88) (Operand.tmp 89) (Operand.const (Value.bool false)), type := 4, pos := "law.go:55", after := #[{ on := 35, ground := Ground.data }, { on := 36, ground := Ground.data }], guard := none })) (v := (.bool true)) rfl (by kernel_rfl) (by kernel_rfl) (by kernel_rfl) (fun _ _ _ h => h) (Or.inl ⟨by rfl, ?_⟩) (by assumption) ?_
            · (intro w hSw; (try dsimp only at hSw); go_simp)
            try simp only [Act.put, List.setIfInBounds_toArray, List.set_cons_zero, List.set_cons_succ]
            refine wpAnyH_take (i := 38) (oi := ({ dst := some 4, op := Op.assign (Operand.tmp 90), type := 4, pos := "law.go:55", after := #[{ on := 37, ground := Ground.data }, { on := 36, ground := Ground.chain }, { on := 0, ground := Ground.phase }, { on := 1, ground := Ground.phase }, { on := 2, ground := Ground.phase }, { on := 3, ground := Ground.phase }, { on := 4, ground := Ground.phase }, { on := 5, ground := Ground.phase }, { on := 6, ground := Ground.phase }, { on := 7, ground := Ground.phase }, { on := 8, ground := Ground.phase }, { on := 9, ground := Ground.phase }, { on := 10, ground := Ground.phase }, { on := 11, ground := Ground.phase }, { on := 12, ground := Ground.phase }, { on := 13, ground := Ground.phase }, { on := 14, ground := Ground.phase }, { on := 15, ground := Ground.phase }, { on := 16, ground := Ground.phase }, { on := 17, ground := Ground.phase }, { on := 18, ground := Ground.phase }, { on := 19, ground := Ground.phase }, { on := 20, ground := Ground.phase }, { on := 21, ground := Ground.phase }, { on := 22, ground := Ground.phase }, { on := 23, ground := Ground.phase }, { on := 24, ground := Ground.phase }, { on := 25, ground := Ground.phase }, { on := 26, ground := Ground.phase }, { on := 27, ground := Ground.phase }, { on := 28, ground := Ground.phase }, { on := 29, ground := Ground.phase }, { on := 30, ground := Ground.phase }, { on := 31, ground := Ground.phase }, { on := 32, ground := Ground.phase }, { on := 33, ground := Ground.phase }, { on := 34, ground := Ground.phase }, { on := 35, ground := Ground.phase }, { on := 36, ground := Ground.phase }, { on := 37, ground := Ground.phase }], guard := none })) (v := (.bool true)) rfl (by kernel_rfl) (by kernel_rfl) (by kernel_rfl) (fun _ _ _ h => h) (Or.inl ⟨by rfl, ?_⟩) (by assumption) ?_
            · (intro w hSw; (try dsimp only at hSw); go_simp)
            try simp only [Act.put, List.setIfInBounds_toArray, List.set_cons_zero, List.set_cons_succ]
            refine wpAnyH_done (by kernel_rfl) ?_ _
            clear hHeld
            have KL9 := Lib.hid (KL.out.trans (hw.mono (by have := KL.out.size; have := HN.out; omega)))
            go_wp2_with fail
            go_ret
            exact ⟨rfl, KL9.out⟩
theorem walk_ResBack (a0 a1 a2 b0 b1 b2 : Int) (w : World) (_ : (Lit.int .i64 a0).wf = true) (_ : (Lit.int .i64 a1).wf = true) (_ : (Lit.int .i64 a2).wf = true) (_ : (Lit.int .i64 b0).wf = true) (_ : (Lit.int .i64 b1).wf = true) (_ : (Lit.int .i64 b2).wf = true) (hl : laidMetH Tryd.prog Rows.resBackRow.laid w) :
    Calls Tryd.prog 11 #[.agg #[.int .i64 a0, .int .i64 a1, .int .i64 a2], .agg #[.int .i64 b0, .int .i64 b1, .int .i64 b2]] w fun e w' => e = .returned (.bool true) ∧ Below w.heap.size w w' :=
  walk_rb a0 a1 a2 b0 b1 b2 w (laid_of7 hl)
end Go.Proofs.YtogjckengmkfiaaDoor
