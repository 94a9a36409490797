/-
  The reference's vectors (reeve's layer 8): Right, Fits, Most, Add, Sub.
-/
import Derived.Test.YtogjckengmkfiaaDoorResLess
namespace Go.Proofs.YtogjckengmkfiaaDoor
open Go.RowKit
set_option linter.unusedVariables false
set_option linter.unusedSimpArgs false

theorem resB_bad (l : List Int) (k : Nat) (hk : k < 3) (h : inR (fld l k) 0 1048576 = false) : resB l = false := by
  unfold resB
  match k, hk with
  | 0, _ => rw [h]; rfl
  | 1, _ => rw [h]; simp
  | 2, _ => rw [h]; simp
set_option maxRecDepth 100000 in
set_option maxHeartbeats 800000 in
theorem ref08_right (l : List Int) (hl : l.length = 3) (w : World) : Calls Tryd.prog 48 #[.agg (cellsI l)] w fun e w' => e = .returned (.bool (resB l)) ∧ Below w.heap.size w w' := by
  have HCC := Lib.hid (fun i (h : i < 3) => show (cellsI l)[i]? = some (.int .i64 (fld l i)) from cellsI_at (by omega))
  obtain ⟨C, hC⟩ : ∃ C, cellsI l = C := ⟨_, rfl⟩
  rw [hC] at HCC ⊢
  clear hC
  obtain ⟨R, hR⟩ : ∃ R, resB l = R := ⟨_, rfl⟩
  rw [hR]
  have HR := Lib.hid hR
  clear hR
  have HB := Lib.hid (Blk.new w C 53)
  have HL := Lib.hid ((Below.refl w.heap.size w).alloc (Nat.le_refl _) (.cells C 53))
  obtain ⟨W, hW⟩ : ∃ W, w.alloc (.cells C 53) = W := ⟨_, rfl⟩
  rw [hW] at HB HL
  have HW := Lib.hid hW
  clear hW
  go_enter Tryd.func48, Tryd.ntmps48
  go_upto_region 1 with fail
  rw [HW.out]
  go_wp2_with fail
  go_loopg [3] 3 (fun gg s3 wr => ∃ k : Nat, k ≤ 3 ∧ gg = 3 - k ∧ s3 = .int .i64 k ∧ W = wr ∧ Hid (∀ j, j < k → inR (fld l j) 0 1048576 = true))
  case atStart => exact ⟨0, by omega, rfl, rfl, rfl, Lib.hid (fun j h => by omega)⟩
  case round =>
    obtain ⟨k, hk, hg, rfl, rfl, HI⟩ := hrel
    have hg := hg.symm
    subst hg
    by_cases hlt : k < 3
    · have hkI : (k : Int) < 3 := by omega
      have hk0 : (0 : Int) ≤ (k : Int) := by omega
      have c0 := HB.out.cell (HCC.out k hlt)
      have hbad := resB_bad l k hlt
      rw [HR.out] at hbad
      have HBAD := Lib.hid hbad
      have HI2 := Lib.hid (fun (h : inR (fld l k) 0 1048576 = true) j (hj : j < k + 1) => show inR (fld l j) 0 1048576 = true by
        by_cases e : j = k
        · rw [e]; exact h
        · exact HI.out j (by omega))
      clear hbad
      obtain ⟨x, hx⟩ : ∃ x, fld l k = x := ⟨_, rfl⟩
      rw [hx] at c0 HBAD HI2
      clear hx
      by_cases h1 : x < 0
      · have HR2 := Lib.hid (HBAD.out (inR_no (.inl h1)))
        go_wp2_with fail
        go_ret
        exact ⟨by rw [HR2.out]; rfl, HL.out⟩
      · have h1' : 0 ≤ x := by omega
        by_cases h2 : 1048576 < x
        · have HR2 := Lib.hid (HBAD.out (inR_no (.inr h2)))
          go_wp2_with fail
          go_ret
          exact ⟨by rw [HR2.out]; rfl, HL.out⟩
        · have h2' : x ≤ 1048576 := by omega
          have HI3 := Lib.hid (HI2.out (inR_yes h1' h2'))
          go_wp2_with fail
          go_roundg (3 - (k + 1))
          case measure => omega
          case rel => exact ⟨k + 1, by omega, rfl, by go_num, rfl, HI3⟩
    · obtain rfl : k = 3 := by omega
      have HR2 : Hid (R = true) := Lib.hid (by
        rw [← HR.out]; unfold resB
        rw [HI.out 0 (by omega), HI.out 1 (by omega), HI.out 2 (by omega)]; rfl)
      go_wp2_with fail
      go_ret
      exact ⟨by rw [HR2.out]; rfl, HL.out⟩
theorem addW_wrap (a b : Int) : addW a b = IntKind.i64.wrap (a + b) := by unfold addW wrap64; rw [IntKind.wrap_i64]
theorem subW_wrap (a b : Int) : subW a b = IntKind.i64.wrap (a - b) := by unfold subW wrap64; rw [IntKind.wrap_i64]
theorem fitsB_three (a0 a1 a2 b0 b1 b2 : Int) : fitsB [a0, a1, a2] [b0, b1, b2] = (decide (a0 ≤ b0) && (decide (a1 ≤ b1) && decide (a2 ≤ b2))) := by
  unfold fitsB
  have e : mostL [a0, a1, a2] [b0, b1, b2] = [max a0 b0, max a1 b1, max a2 b2] := rfl
  rw [e, Bool.eq_iff_iff]
  simp only [Bool.and_eq_true, decide_eq_true_iff, List.cons.injEq, and_true]
  omega
set_option maxRecDepth 100000 in
set_option maxHeartbeats 1600000 in
theorem ref08_fits (a b : List Int) (ha : a.length = 3) (hb : b.length = 3) (w : World) :
    Calls Tryd.prog 50 #[.agg (cellsI a), .agg (cellsI b)] w fun e w' => e = .returned (.bool (fitsB a b)) ∧ Below w.heap.size w w' := by
  obtain ⟨a0, a1, a2, rfl⟩ := three_of ha
  obtain ⟨b0, b1, b2, rfl⟩ := three_of hb
  rw [fitsB_three]
  have ea : cellsI [a0, a1, a2] = #[.int .i64 a0, .int .i64 a1, .int .i64 a2] := rfl
  have eb : cellsI [b0, b1, b2] = #[.int .i64 b0, .int .i64 b1, .int .i64 b2] := rfl
  rw [ea, eb]
  clear ea eb ha hb
  obtain ⟨n, hn⟩ : ∃ n, w.heap.size = n := ⟨_, rfl⟩
  obtain ⟨W, hW⟩ : ∃ W, (w.alloc (.cells #[.int .i64 a0, .int .i64 a1, .int .i64 a2] 53)).alloc (.cells #[.int .i64 b0, .int .i64 b1, .int .i64 b2] 53) = W := ⟨_, rfl⟩
  obtain ⟨KA, KB, KL, KZ⟩ := two_boxes w n hn _ _ _ W hW
  have HW := Lib.hid hW
  rw [hn]
  clear hW
  have c0 := KA.cell (i := 0) rfl
  have c1 := KA.cell (i := 1) rfl
  have c2 := KA.cell (i := 2) rfl
  have e0 := KB.cell (i := 0) rfl
  have e1 := KB.cell (i := 1) rfl
  have e2 := KB.cell (i := 2) rfl
  have KL := Lib.hid KL
  have KZ := Lib.hid KZ
  clear KA KB
  have hx : ∃ R, (decide (a0 ≤ b0) && (decide (a1 ≤ b1) && decide (a2 ≤ b2))) = R ∧ ((b0 < a0 ∧ R = false) ∨ (a0 ≤ b0 ∧ b1 < a1 ∧ R = false) ∨ (a0 ≤ b0 ∧ a1 ≤ b1 ∧ b2 < a2 ∧ R = false) ∨ (a0 ≤ b0 ∧ a1 ≤ b1 ∧ a2 ≤ b2 ∧ R = true)) := by
    refine ⟨_, rfl, ?_⟩
    by_cases h0 : a0 ≤ b0 <;> by_cases h1 : a1 ≤ b1 <;> by_cases h2 : a2 ≤ b2 <;> simp [h0, h1, h2] <;> omega
  obtain ⟨R, hR, hx⟩ := hx
  rw [hR]
  clear hR
  rcases hx with ⟨h0, rfl⟩ | ⟨h0, h1, rfl⟩ | ⟨h0, h1, h2, rfl⟩ | ⟨h0, h1, h2, rfl⟩
  all_goals
    go_enter Tryd.func50, Tryd.ntmps50
    go_upto_region 1 with fail
    rw [HW.out]
    try rw [hn]
    go_wp2_with fail
    go_ret
    exact ⟨by first | rfl | (show Ending.returned (.bool (decide _)) = _; rw [decide_eq_false (by omega)]) | (show Ending.returned (.bool (decide _)) = _; rw [decide_eq_true (by omega)]), KL.out⟩
set_option maxRecDepth 100000 in
set_option maxHeartbeats 3200000 in
theorem ref08_most (a b : List Int) (ha : a.length = 3) (hb : b.length = 3) (w : World) :
    Calls Tryd.prog 54 #[.agg (cellsI a), .agg (cellsI b)] w fun e w' => e = .returned (.agg (cellsI (mostL a b))) ∧ Below w.heap.size w w' := by
  have hu := Tryd.underlying53
  obtain ⟨a0, a1, a2, rfl⟩ := three_of ha
  obtain ⟨b0, b1, b2, rfl⟩ := three_of hb
  have e : mostL [a0, a1, a2] [b0, b1, b2] = [max a0 b0, max a1 b1, max a2 b2] := rfl
  rw [e]
  clear e
  have h0 : (a0 < b0 ∧ max a0 b0 = b0) ∨ (b0 ≤ a0 ∧ max a0 b0 = a0) := by omega
  have h1 : (a1 < b1 ∧ max a1 b1 = b1) ∨ (b1 ≤ a1 ∧ max a1 b1 = a1) := by omega
  have h2 : (a2 < b2 ∧ max a2 b2 = b2) ∨ (b2 ≤ a2 ∧ max a2 b2 = a2) := by omega
  generalize max a0 b0 = m0 at h0 ⊢
  generalize max a1 b1 = m1 at h1 ⊢
  generalize max a2 b2 = m2 at h2 ⊢
  have ea : cellsI [a0, a1, a2] = #[.int .i64 a0, .int .i64 a1, .int .i64 a2] := rfl
  have eb : cellsI [b0, b1, b2] = #[.int .i64 b0, .int .i64 b1, .int .i64 b2] := rfl
  rw [ea, eb]
  clear ea eb ha hb
  obtain ⟨n, hn⟩ : ∃ n, w.heap.size = n := ⟨_, rfl⟩
  obtain ⟨W, hW⟩ : ∃ W, ((w.alloc (.cells #[.int .i64 a0, .int .i64 a1, .int .i64 a2] 53)).alloc (.cells #[.int .i64 b0, .int .i64 b1, .int .i64 b2] 53)).alloc (.cells #[.int .i64 0, .int .i64 0, .int .i64 0] 53) = W := ⟨_, rfl⟩
  obtain ⟨KA, KB, KC, KL, KZ⟩ := three_boxes w n hn _ _ _ _ W hW
  have HW := Lib.hid hW
  rw [hn]
  clear hW
  have c0 := KA.cell (i := 0) rfl
  have c1 := KA.cell (i := 1) rfl
  have c2 := KA.cell (i := 2) rfl
  have e0 := KB.cell (i := 0) rfl
  have e1 := KB.cell (i := 1) rfl
  have e2 := KB.cell (i := 2) rfl
  have KD : Hid (Blk W (n + 1 + 1) (cellsI [0, 0, 0]) 53) := Lib.hid KC
  have KL := Lib.hid KL
  have KZ := Lib.hid KZ
  clear KA KB KC
  rcases h0 with ⟨h0, rfl⟩ | ⟨h0, rfl⟩ <;> rcases h1 with ⟨h1, rfl⟩ | ⟨h1, rfl⟩ <;> rcases h2 with ⟨h2, rfl⟩ | ⟨h2, rfl⟩
  all_goals
    go_enter Tryd.func54, Tryd.ntmps54
    go_upto_region 1 with fail
    rw [HW.out]
    try rw [hn]
    go_wp2_with (with_reducible refine ev_store rfl 53 (.tmp 4) (.tmp 20) rfl (n + 1 + 1) (cellsI [m0, m1, m2]) rfl rfl 53 _ KD.out (info_res _ rfl) rfl (cellsI_one _) ?_; intro w9 hb9 hc9 hz9)
    refine bodyPost_ret (res_c rfl _ (n + 1 + 1) 53 (cellsI [m0, m1, m2]) _ rfl hb9 hu rfl (info_res _ rfl)) rfl ⟨rfl, ?_⟩
    exact Chg.belowOf KL.out hc9 (fun k hk => by omega) (by have := KL.out.size; omega)
set_option maxRecDepth 100000 in
set_option maxHeartbeats 3200000 in
theorem ref08_add (a b : List Int) (ha : a.length = 3) (hb : b.length = 3) (w : World) :
    Calls Tryd.prog 44 #[.agg (cellsI a), .agg (cellsI b)] w fun e w' => e = .returned (.tuple #[.agg (cellsI (bothR addW a b).1), .bool (bothR addW a b).2]) ∧ Below w.heap.size w w' := by
  have hu := Tryd.underlying53
  have hRA := ref08_right a ha
  have hRB := ref08_right b hb
  have hzl : (List.zipWith addW a b).length = 3 := by simp [ha, hb]
  have hRC := ref08_right (List.zipWith addW a b) hzl
  have hno : ¬ (resB a = true ∧ resB b = true ∧ resB (List.zipWith addW a b) = true) → bothR addW a b = ([0, 0, 0], false) := by intro h; unfold bothR; rw [if_neg h]
  have hyes : resB a = true → resB b = true → resB (List.zipWith addW a b) = true → bothR addW a b = (List.zipWith addW a b, true) := by intro h1 h2 h3; unfold bothR; rw [if_pos ⟨h1, h2, h3⟩]
  generalize resB (List.zipWith addW a b) = rc at hRC hno hyes
  obtain ⟨RR, hR⟩ : ∃ RR, bothR addW a b = RR := ⟨_, rfl⟩
  rw [hR] at hno hyes ⊢
  generalize resB a = ra at hRA hno hyes
  generalize resB b = rb at hRB hno hyes
  obtain ⟨a0, a1, a2, rfl⟩ := three_of ha
  obtain ⟨b0, b1, b2, rfl⟩ := three_of hb
  have ez3 : List.zipWith addW [a0, a1, a2] [b0, b1, b2] = [addW a0 b0, addW a1 b1, addW a2 b2] := rfl
  rw [ez3] at hyes hRC
  clear hR hzl ez3
  obtain ⟨z0, y0⟩ : ∃ z, IntKind.i64.wrap (a0 + b0) = z := ⟨_, rfl⟩
  obtain ⟨z1, y1⟩ : ∃ z, IntKind.i64.wrap (a1 + b1) = z := ⟨_, rfl⟩
  obtain ⟨z2, y2⟩ : ∃ z, IntKind.i64.wrap (a2 + b2) = z := ⟨_, rfl⟩
  rw [show addW a0 b0 = z0 from (addW_wrap _ _).trans y0, show addW a1 b1 = z1 from (addW_wrap _ _).trans y1, show addW a2 b2 = z2 from (addW_wrap _ _).trans y2] at hyes hRC
  have ea : cellsI [a0, a1, a2] = #[.int .i64 a0, .int .i64 a1, .int .i64 a2] := rfl
  have eb : cellsI [b0, b1, b2] = #[.int .i64 b0, .int .i64 b1, .int .i64 b2] := rfl
  have ez : cellsI [z0, z1, z2] = #[.int .i64 z0, .int .i64 z1, .int .i64 z2] := rfl
  rw [ea] at hRA ⊢
  rw [eb] at hRB ⊢
  rw [ez] at hRC
  obtain ⟨R1, R2⟩ := RR
  have HRA := Lib.hid hRA
  have HRB := Lib.hid hRB
  have HRC := Lib.hid hRC
  have HNO := Lib.hid hno
  have HYES := Lib.hid hyes
  have Y0 := Lib.hid y0
  have Y1 := Lib.hid y1
  have Y2 := Lib.hid y2
  clear hRA hRB hRC hno hyes ea eb ez ha hb y0 y1 y2
  obtain ⟨n, hn⟩ : ∃ n, w.heap.size = n := ⟨_, rfl⟩
  obtain ⟨W, hW⟩ : ∃ W, ((w.alloc (.cells #[.int .i64 a0, .int .i64 a1, .int .i64 a2] 53)).alloc (.cells #[.int .i64 b0, .int .i64 b1, .int .i64 b2] 53)).alloc (.cells #[.int .i64 0, .int .i64 0, .int .i64 0] 53) = W := ⟨_, rfl⟩
  obtain ⟨ka, kb, kc, kl, kz⟩ := three_boxes w n hn _ _ _ _ W hW
  have KA := Lib.hid ka
  have KB := Lib.hid kb
  have KC : Hid (Blk W (n + 1 + 1) (cellsI [0, 0, 0]) 53) := Lib.hid kc
  have KL := Lib.hid kl
  have HW := Lib.hid hW
  rw [hn]
  clear hW ka kb kc kl kz
  go_enter Tryd.func44, Tryd.ntmps44
  go_upto_region 1 with fail
  rw [HW.out]
  try rw [hn]
  clear HW
  have d0 := KA.out.cell (i := 0) rfl
  have d1 := KA.out.cell (i := 1) rfl
  have d2 := KA.out.cell (i := 2) rfl
  go_wp2_with fail
  refine (HRA.out _).mono ?_
  rintro e w1 ⟨rfl, hb1⟩
  have KA1 := Lib.hid (KA.out.below hb1 KA.out.lt)
  have KB1 := Lib.hid (KB.out.below hb1 KB.out.lt)
  have KC1 := Lib.hid (KC.out.below hb1 KC.out.lt)
  have KL1 := Lib.hid (KL.out.trans (hb1.mono (by have := KC.out.lt; omega)))
  clear hb1 KA KB KC KL
  clear d0 d1 d2
  cases ra with
  | false =>
    have HR := Lib.hid (HNO.out (by simp))
    clear HNO HYES
    go_wp2_with (with_reducible refine ev_store rfl 53 (.tmp 4) (.tmp 15) rfl (n + 1 + 1) (cellsI [0, 0, 0]) rfl rfl 53 _ KC1.out (info_res _ rfl) rfl (cellsI_one _) ?_; intro w9 hb9 hc9 hz9)
    refine bodyPost_ret (res_ct rfl _ (n + 1 + 1) 53 (cellsI [0, 0, 0]) _ rfl hb9 hu rfl (info_res _ rfl)) rfl ⟨by rw [(Prod.mk.inj HR.out).1, (Prod.mk.inj HR.out).2]; rfl, ?_⟩
    exact Chg.belowOf KL1.out hc9 (fun k hk => by omega) (by have := KL1.out.size; omega)
  | true =>
    have e0 := KB1.out.cell (i := 0) rfl
    have e1 := KB1.out.cell (i := 1) rfl
    have e2 := KB1.out.cell (i := 2) rfl
    go_wp2_with fail
    refine (HRB.out _).mono ?_
    rintro e w2 ⟨rfl, hb2⟩
    have KA2 := Lib.hid (KA1.out.below hb2 KA1.out.lt)
    have KB2 := Lib.hid (KB1.out.below hb2 KB1.out.lt)
    have KC2 := Lib.hid (KC1.out.below hb2 KC1.out.lt)
    have KL2 := Lib.hid (KL1.out.trans (hb2.mono (by have := KC1.out.lt; omega)))
    clear hb2 KA1 KB1 KC1 KL1
    clear e0 e1 e2
    cases rb with
    | false =>
      have HR := Lib.hid (HNO.out (by simp))
      clear HNO HYES
      go_wp2_with (with_reducible refine ev_store rfl 53 (.tmp 4) (.tmp 15) rfl (n + 1 + 1) (cellsI [0, 0, 0]) rfl rfl 53 _ KC2.out (info_res _ rfl) rfl (cellsI_one _) ?_; intro w9 hb9 hc9 hz9)
      refine bodyPost_ret (res_ct rfl _ (n + 1 + 1) 53 (cellsI [0, 0, 0]) _ rfl hb9 hu rfl (info_res _ rfl)) rfl ⟨by rw [(Prod.mk.inj HR.out).1, (Prod.mk.inj HR.out).2]; rfl, ?_⟩
      exact Chg.belowOf KL2.out hc9 (fun k hk => by omega) (by have := KL2.out.size; omega)
    | true =>
      have d0 := KA2.out.cell (i := 0) rfl
      have d1 := KA2.out.cell (i := 1) rfl
      have d2 := KA2.out.cell (i := 2) rfl
      have e0 := KB2.out.cell (i := 0) rfl
      have e1 := KB2.out.cell (i := 1) rfl
      have e2 := KB2.out.cell (i := 2) rfl
      have y0 := Y0.out
      have y1 := Y1.out
      have y2 := Y2.out
      obtain ⟨m, hm⟩ : ∃ m, w2.heap.size = m := ⟨_, rfl⟩
      have KD := Blk.new w2 #[.int .i64 z0, .int .i64 z1, .int .i64 z2] 53
      rw [hm] at KD
      have KC3 := KC2.out.alloc (.cells #[.int .i64 z0, .int .i64 z1, .int .i64 z2] 53)
      have KL3 := KL2.out.alloc (by have := KC2.out.lt; omega) (.cells #[.int .i64 z0, .int .i64 z1, .int .i64 z2] 53)
      go_upto_region 4 with fail
      obtain ⟨w3, hw3⟩ : ∃ w3, w2.alloc (.cells #[.int .i64 z0, .int .i64 z1, .int .i64 z2] 53) = w3 := ⟨_, rfl⟩
      rw [hw3] at KD KC3 KL3 ⊢
      try rw [hm]
      have KD4 := Lib.hid KD
      have KC5 := Lib.hid KC3
      have KL5 := Lib.hid KL3
      clear KD KC3 KL3 hm hw3 KA2 KB2 KC2 KL2 d0 d1 d2 e0 e1 e2 y0 y1 y2 Y0 Y1 Y2
      have f0 := KD4.out.cell (i := 0) rfl
      have f1 := KD4.out.cell (i := 1) rfl
      have f2 := KD4.out.cell (i := 2) rfl
      go_wp2_with fail
      refine (HRC.out _).mono ?_
      rintro e w5 ⟨rfl, hb5⟩
      have KD6 := Lib.hid (KD4.out.below hb5 KD4.out.lt)
      have KC6 := Lib.hid (KC5.out.below hb5 KC5.out.lt)
      have KL6 := Lib.hid (KL5.out.trans (hb5.mono (by have := KC5.out.lt; omega)))
      clear hb5 KD4 KC5 KL5 f0 f1 f2
      cases rc with
      | false =>
        have HR := Lib.hid (HNO.out (by simp))
        clear HNO HYES
        go_wp2_with (with_reducible refine ev_store rfl 53 (.tmp 4) (.tmp 35) rfl (n + 1 + 1) (cellsI [0, 0, 0]) rfl rfl 53 _ KC6.out (info_res _ rfl) rfl (cellsI_one _) ?_; intro w9 hb9 hc9 hz9)
        refine bodyPost_ret (res_ct rfl _ (n + 1 + 1) 53 (cellsI [0, 0, 0]) _ rfl hb9 hu rfl (info_res _ rfl)) rfl ⟨by rw [(Prod.mk.inj HR.out).1, (Prod.mk.inj HR.out).2]; rfl, ?_⟩
        exact Chg.belowOf KL6.out hc9 (fun k hk => by omega) (by have := KL6.out.size; omega)
      | true =>
        have HR := Lib.hid (HYES.out (by simp) (by simp) (by simp))
        clear HNO HYES
        have KD7 : Hid (Blk w5 m (cellsI [z0, z1, z2]) 53) := KD6
        clear KD6
        go_wp2_with (first
          | (with_reducible refine ev_load rfl 53 (.tmp 6) rfl m rfl 53 (cellsI [z0, z1, z2]) _ KD7.out hu rfl (info_res _ rfl) ?_)
          | (with_reducible refine ev_store rfl 53 (.tmp 4) (.tmp 36) rfl (n + 1 + 1) (cellsI [z0, z1, z2]) rfl rfl 53 _ KC6.out (info_res _ rfl) rfl (cellsI_one _) ?_; intro w9 hb9 hc9 hz9))
        refine bodyPost_ret (res_ct rfl _ (n + 1 + 1) 53 (cellsI [z0, z1, z2]) _ rfl hb9 hu rfl (info_res _ rfl)) rfl ⟨by rw [(Prod.mk.inj HR.out).1, (Prod.mk.inj HR.out).2]; rfl, ?_⟩
        exact Chg.belowOf KL6.out hc9 (fun k hk => by omega) (by have := KL6.out.size; omega)
/-- What the reference says of one without the other. -/
def subR (a b : List Int) : List Int × Bool := if resB a = true ∧ resB b = true ∧ fitsB b a = true then (List.zipWith subW a b, true) else ([0, 0, 0], false)
set_option maxRecDepth 100000 in
set_option maxHeartbeats 3200000 in
theorem ref08_sub (a b : List Int) (ha : a.length = 3) (hb : b.length = 3) (w : World) :
    Calls Tryd.prog 46 #[.agg (cellsI a), .agg (cellsI b)] w fun e w' => e = .returned (.tuple #[.agg (cellsI (subR a b).1), .bool (subR a b).2]) ∧ Below w.heap.size w w' := by
  have hu := Tryd.underlying53
  have hRA := ref08_right a ha
  have hRB := ref08_right b hb
  have hzl : (List.zipWith subW a b).length = 3 := by simp [ha, hb]
  have hRC := ref08_fits b a hb ha
  have hno : ¬ (resB a = true ∧ resB b = true ∧ fitsB b a = true) → subR a b = ([0, 0, 0], false) := by intro h; unfold subR; rw [if_neg h]
  have hyes : resB a = true → resB b = true → fitsB b a = true → subR a b = (List.zipWith subW a b, true) := by intro h1 h2 h3; unfold subR; rw [if_pos ⟨h1, h2, h3⟩]
  generalize fitsB b a = rc at hRC hno hyes
  obtain ⟨RR, hR⟩ : ∃ RR, subR a b = RR := ⟨_, rfl⟩
  rw [hR] at hno hyes ⊢
  generalize resB a = ra at hRA hno hyes
  generalize resB b = rb at hRB hno hyes
  obtain ⟨a0, a1, a2, rfl⟩ := three_of ha
  obtain ⟨b0, b1, b2, rfl⟩ := three_of hb
  have ez3 : List.zipWith subW [a0, a1, a2] [b0, b1, b2] = [subW a0 b0, subW a1 b1, subW a2 b2] := rfl
  rw [ez3] at hyes
  clear hR hzl ez3
  obtain ⟨z0, y0⟩ : ∃ z, IntKind.i64.wrap (a0 - b0) = z := ⟨_, rfl⟩
  obtain ⟨z1, y1⟩ : ∃ z, IntKind.i64.wrap (a1 - b1) = z := ⟨_, rfl⟩
  obtain ⟨z2, y2⟩ : ∃ z, IntKind.i64.wrap (a2 - b2) = z := ⟨_, rfl⟩
  rw [show subW a0 b0 = z0 from (subW_wrap _ _).trans y0, show subW a1 b1 = z1 from (subW_wrap _ _).trans y1, show subW a2 b2 = z2 from (subW_wrap _ _).trans y2] at hyes
  have ea : cellsI [a0, a1, a2] = #[.int .i64 a0, .int .i64 a1, .int .i64 a2] := rfl
  have eb : cellsI [b0, b1, b2] = #[.int .i64 b0, .int .i64 b1, .int .i64 b2] := rfl
  have ez : cellsI [z0, z1, z2] = #[.int .i64 z0, .int .i64 z1, .int .i64 z2] := rfl
  rw [ea] at hRA ⊢
  rw [eb] at hRB ⊢
  rw [ea, eb] at hRC
  obtain ⟨R1, R2⟩ := RR
  have HRA := Lib.hid hRA
  have HRB := Lib.hid hRB
  have HRC := Lib.hid hRC
  have HNO := Lib.hid hno
  have HYES := Lib.hid hyes
  have Y0 := Lib.hid y0
  have Y1 := Lib.hid y1
  have Y2 := Lib.hid y2
  clear hRA hRB hRC hno hyes ea eb ez ha hb y0 y1 y2
  obtain ⟨n, hn⟩ : ∃ n, w.heap.size = n := ⟨_, rfl⟩
  obtain ⟨W, hW⟩ : ∃ W, ((w.alloc (.cells #[.int .i64 a0, .int .i64 a1, .int .i64 a2] 53)).alloc (.cells #[.int .i64 b0, .int .i64 b1, .int .i64 b2] 53)).alloc (.cells #[.int .i64 0, .int .i64 0, .int .i64 0] 53) = W := ⟨_, rfl⟩
  obtain ⟨ka, kb, kc, kl, kz⟩ := three_boxes w n hn _ _ _ _ W hW
  have KA := Lib.hid ka
  have KB := Lib.hid kb
  have KC : Hid (Blk W (n + 1 + 1) (cellsI [0, 0, 0]) 53) := Lib.hid kc
  have KL := Lib.hid kl
  have HW := Lib.hid hW
  rw [hn]
  clear hW ka kb kc kl kz
  go_enter Tryd.func46, Tryd.ntmps46
  go_upto_region 1 with fail
  rw [HW.out]
  try rw [hn]
  clear HW
  have d0 := KA.out.cell (i := 0) rfl
  have d1 := KA.out.cell (i := 1) rfl
  have d2 := KA.out.cell (i := 2) rfl
  go_wp2_with fail
  refine (HRA.out _).mono ?_
  rintro e w1 ⟨rfl, hb1⟩
  have KA1 := Lib.hid (KA.out.below hb1 KA.out.lt)
  have KB1 := Lib.hid (KB.out.below hb1 KB.out.lt)
  have KC1 := Lib.hid (KC.out.below hb1 KC.out.lt)
  have KL1 := Lib.hid (KL.out.trans (hb1.mono (by have := KC.out.lt; omega)))
  clear hb1 KA KB KC KL
  clear d0 d1 d2
  cases ra with
  | false =>
    have HR := Lib.hid (HNO.out (by simp))
    clear HNO HYES
    go_wp2_with (with_reducible refine ev_store rfl 53 (.tmp 4) (.tmp 20) rfl (n + 1 + 1) (cellsI [0, 0, 0]) rfl rfl 53 _ KC1.out (info_res _ rfl) rfl (cellsI_one _) ?_; intro w9 hb9 hc9 hz9)
    refine bodyPost_ret (res_ct rfl _ (n + 1 + 1) 53 (cellsI [0, 0, 0]) _ rfl hb9 hu rfl (info_res _ rfl)) rfl ⟨by rw [(Prod.mk.inj HR.out).1, (Prod.mk.inj HR.out).2]; rfl, ?_⟩
    exact Chg.belowOf KL1.out hc9 (fun k hk => by omega) (by have := KL1.out.size; omega)
  | true =>
    have e0 := KB1.out.cell (i := 0) rfl
    have e1 := KB1.out.cell (i := 1) rfl
    have e2 := KB1.out.cell (i := 2) rfl
    go_wp2_with fail
    refine (HRB.out _).mono ?_
    rintro e w2 ⟨rfl, hb2⟩
    have KA2 := Lib.hid (KA1.out.below hb2 KA1.out.lt)
    have KB2 := Lib.hid (KB1.out.below hb2 KB1.out.lt)
    have KC2 := Lib.hid (KC1.out.below hb2 KC1.out.lt)
    have KL2 := Lib.hid (KL1.out.trans (hb2.mono (by have := KC1.out.lt; omega)))
    clear hb2 KA1 KB1 KC1 KL1
    clear e0 e1 e2
    cases rb with
    | false =>
      have HR := Lib.hid (HNO.out (by simp))
      clear HNO HYES
      go_wp2_with (with_reducible refine ev_store rfl 53 (.tmp 4) (.tmp 20) rfl (n + 1 + 1) (cellsI [0, 0, 0]) rfl rfl 53 _ KC2.out (info_res _ rfl) rfl (cellsI_one _) ?_; intro w9 hb9 hc9 hz9)
      refine bodyPost_ret (res_ct rfl _ (n + 1 + 1) 53 (cellsI [0, 0, 0]) _ rfl hb9 hu rfl (info_res _ rfl)) rfl ⟨by rw [(Prod.mk.inj HR.out).1, (Prod.mk.inj HR.out).2]; rfl, ?_⟩
      exact Chg.belowOf KL2.out hc9 (fun k hk => by omega) (by have := KL2.out.size; omega)
    | true =>
      have d0 := KA2.out.cell (i := 0) rfl
      have d1 := KA2.out.cell (i := 1) rfl
      have d2 := KA2.out.cell (i := 2) rfl
      have e0 := KB2.out.cell (i := 0) rfl
      have e1 := KB2.out.cell (i := 1) rfl
      have e2 := KB2.out.cell (i := 2) rfl
      go_wp2_with fail
      refine (HRC.out _).mono ?_
      rintro e w3 ⟨rfl, hb3⟩
      have KA3 := Lib.hid (KA2.out.below hb3 KA2.out.lt)
      have KB3 := Lib.hid (KB2.out.below hb3 KB2.out.lt)
      have KC3 := Lib.hid (KC2.out.below hb3 KC2.out.lt)
      have KL3 := Lib.hid (KL2.out.trans (hb3.mono (by have := KC2.out.lt; omega)))
      clear hb3 KA2 KB2 KC2 KL2
      clear d0 d1 d2 e0 e1 e2
      cases rc with
      | false =>
        have HR := Lib.hid (HNO.out (by simp))
        clear HNO HYES
        go_wp2_with (with_reducible refine ev_store rfl 53 (.tmp 4) (.tmp 20) rfl (n + 1 + 1) (cellsI [0, 0, 0]) rfl rfl 53 _ KC3.out (info_res _ rfl) rfl (cellsI_one _) ?_; intro w9 hb9 hc9 hz9)
        refine bodyPost_ret (res_ct rfl _ (n + 1 + 1) 53 (cellsI [0, 0, 0]) _ rfl hb9 hu rfl (info_res _ rfl)) rfl ⟨by rw [(Prod.mk.inj HR.out).1, (Prod.mk.inj HR.out).2]; rfl, ?_⟩
        exact Chg.belowOf KL3.out hc9 (fun k hk => by omega) (by have := KL3.out.size; omega)
      | true =>
        have HR := Lib.hid (HYES.out (by simp) (by simp) (by simp))
        clear HNO HYES
        have y0 := Y0.out
        have y1 := Y1.out
        have y2 := Y2.out
        have d0 := KA3.out.cell (i := 0) rfl
        have d1 := KA3.out.cell (i := 1) rfl
        have d2 := KA3.out.cell (i := 2) rfl
        have e0 := KB3.out.cell (i := 0) rfl
        have e1 := KB3.out.cell (i := 1) rfl
        have e2 := KB3.out.cell (i := 2) rfl
        go_wp2_with (with_reducible refine ev_store rfl 53 (.tmp 4) (.tmp 36) rfl (n + 1 + 1) (cellsI [z0, z1, z2]) rfl rfl 53 _ KC3.out (info_res _ rfl) rfl (cellsI_one _) ?_; intro w9 hb9 hc9 hz9)
        refine bodyPost_ret (res_ct rfl _ (n + 1 + 1) 53 (cellsI [z0, z1, z2]) _ rfl hb9 hu rfl (info_res _ rfl)) rfl ⟨by rw [(Prod.mk.inj HR.out).1, (Prod.mk.inj HR.out).2]; rfl, ?_⟩
        exact Chg.belowOf KL3.out hc9 (fun k hk => by omega) (by have := KL3.out.size; omega)
end Go.Proofs.YtogjckengmkfiaaDoor
