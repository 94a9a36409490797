/-
  Two vectors together, and one without the other (reeve's layer 8): the program's both, Add, Sub, Most, Fits.
-/
import Derived.Test.YtogjckengmkfiaaDoorResEach
namespace Go.Proofs.YtogjckengmkfiaaDoor
open Go.RowKit
set_option linter.unusedVariables false
set_option linter.unusedSimpArgs false

/-- What both come to, if they, and what is made of them, may be. -/
def bothR (f : Int → Int → Int) (a b : List Int) : List Int × Bool := if resB a = true ∧ resB b = true ∧ resB (List.zipWith f a b) = true then (List.zipWith f a b, true) else ([0, 0, 0], false)
theorem bothR_length (f : Int → Int → Int) (a b : List Int) (ha : a.length = 3) (hb : b.length = 3) : (bothR f a b).1.length = 3 := by
  unfold bothR; split
  · simp [ha, hb]
  · rfl
set_option maxRecDepth 100000 in
set_option maxHeartbeats 3200000 in
theorem res_both_add (a b : List Int) (ha : a.length = 3) (hb : b.length = 3) (w : World) :
    Calls Tryd.prog 86 #[.agg (cellsI a), .agg (cellsI b), .func (Fn.func 87) #[] #[]] w fun e w' => e = .returned (.tuple #[.agg (cellsI (bothR addW a b).1), .bool (bothR addW a b).2]) ∧ Below w.heap.size w w' := by
  have hu := Tryd.underlying53
  have hE := res_each_add a b ha hb
  have hRA := res_right a ha
  have hRB := res_right b hb
  have hzl : (List.zipWith addW a b).length = 3 := by simp [ha, hb]
  have hRC := res_right (List.zipWith addW a b) hzl
  have hno : ¬ (resB a = true ∧ resB b = true ∧ resB (List.zipWith addW a b) = true) → bothR addW a b = ([0, 0, 0], false) := by intro h; unfold bothR; rw [if_neg h]
  have hyes : resB a = true → resB b = true → resB (List.zipWith addW a b) = true → bothR addW a b = (List.zipWith addW a b, true) := by intro h1 h2 h3; unfold bothR; rw [if_pos ⟨h1, h2, h3⟩]
  generalize resB (List.zipWith addW a b) = rc at hRC hno hyes
  obtain ⟨RR, hR⟩ : ∃ RR, bothR addW a b = RR := ⟨_, rfl⟩
  rw [hR] at hno hyes ⊢
  generalize List.zipWith addW a b = z at hE hRC hyes hzl
  generalize resB a = ra at hRA hno hyes
  generalize resB b = rb at hRB hno hyes
  obtain ⟨a0, a1, a2, rfl⟩ := three_of ha
  obtain ⟨b0, b1, b2, rfl⟩ := three_of hb
  obtain ⟨z0, z1, z2, rfl⟩ := three_of hzl
  have ea : cellsI [a0, a1, a2] = #[.int .i64 a0, .int .i64 a1, .int .i64 a2] := rfl
  have eb : cellsI [b0, b1, b2] = #[.int .i64 b0, .int .i64 b1, .int .i64 b2] := rfl
  have ez : cellsI [z0, z1, z2] = #[.int .i64 z0, .int .i64 z1, .int .i64 z2] := rfl
  rw [ea] at hE hRA ⊢
  rw [eb] at hE hRB ⊢
  rw [ez] at hE hRC
  obtain ⟨R1, R2⟩ := RR
  have HE := Lib.hid hE
  have HRA := Lib.hid hRA
  have HRB := Lib.hid hRB
  have HRC := Lib.hid hRC
  have HNO := Lib.hid hno
  have HYES := Lib.hid hyes
  clear hE hRA hRB hRC hno hyes hR ea eb ez ha hb hzl
  obtain ⟨n, hn⟩ : ∃ n, w.heap.size = n := ⟨_, rfl⟩
  obtain ⟨W, hW⟩ : ∃ W, ((w.alloc (.cells #[.int .i64 a0, .int .i64 a1, .int .i64 a2] 53)).alloc (.cells #[.int .i64 b0, .int .i64 b1, .int .i64 b2] 53)).alloc (.cells #[.int .i64 0, .int .i64 0, .int .i64 0] 53) = W := ⟨_, rfl⟩
  have KA : Hid (Blk W n #[.int .i64 a0, .int .i64 a1, .int .i64 a2] 53) := Lib.hid (by rw [← hW, ← hn]; exact ((Blk.new w _ _).alloc _).alloc _)
  have KB : Hid (Blk W (n + 1) #[.int .i64 b0, .int .i64 b1, .int .i64 b2] 53) := Lib.hid (by rw [← hW]; exact (blk_at (w.alloc _) _ _ _ (by simp [hn])).alloc _)
  have KC : Hid (Blk W (n + 1 + 1) #[.int .i64 0, .int .i64 0, .int .i64 0] 53) := Lib.hid (by rw [← hW]; exact blk_at ((w.alloc _).alloc _) _ _ _ (by simp [hn]))
  have KL : Hid (Below n w W) := Lib.hid (by rw [← hW, ← hn]; exact (((Below.refl w.heap.size w).alloc (Nat.le_refl _) _).alloc (by simp) _).alloc (by simp; omega) _)
  have HW := Lib.hid hW
  rw [hn]
  clear hW
  go_enter Tryd.func86, Tryd.ntmps86
  go_upto_region 1 with fail
  rw [HW.out]
  try rw [hn]
  clear HW
  have d0 := KA.out.cell (i := 0) rfl
  have d1 := KA.out.cell (i := 1) rfl
  have d2 := KA.out.cell (i := 2) rfl
  go_wp2_with fail
  refine (HRA.out _).mono ?_
  rintro e w1 ⟨rfl, hb1⟩
  have KA1 := Lib.hid (KA.out.below hb1 KA.out.lt)
  have KB1 := Lib.hid (KB.out.below hb1 KB.out.lt)
  have KC1 := Lib.hid (KC.out.below hb1 KC.out.lt)
  have KL1 := Lib.hid (KL.out.trans (hb1.mono (by have := KA.out.lt; omega)))
  clear hb1 KA KB KC KL d0 d1 d2
  cases ra with
  | false =>
    have HR := Lib.hid (HNO.out (by simp))
    clear HNO HYES
    go_wp2_with (with_reducible refine ev_store rfl 53 (.tmp 6) (.tmp 17) rfl (n + 1 + 1) (cellsI [0, 0, 0]) rfl rfl 53 _ KC1.out (info_res _ rfl) rfl (cellsI_one _) ?_; intro w9 hb9 hc9 hz9)
    refine bodyPost_ret (res_ct rfl _ (n + 1 + 1) 53 (cellsI [0, 0, 0]) _ rfl hb9 hu rfl (info_res _ rfl)) rfl ⟨by rw [(Prod.mk.inj HR.out).1, (Prod.mk.inj HR.out).2]; rfl, ?_⟩
    exact Chg.belowOf KL1.out hc9 (fun k hk => by omega) (by have := KL1.out.size; omega)
  | true =>
    have e0 := KB1.out.cell (i := 0) rfl
    have e1 := KB1.out.cell (i := 1) rfl
    have e2 := KB1.out.cell (i := 2) rfl
    go_wp2_with fail
    refine (HRB.out _).mono ?_
    rintro e w2 ⟨rfl, hb2⟩
    have KA2 := Lib.hid (KA1.out.below hb2 KA1.out.lt)
    have KB2 := Lib.hid (KB1.out.below hb2 KB1.out.lt)
    have KC2 := Lib.hid (KC1.out.below hb2 KC1.out.lt)
    have KL2 := Lib.hid (KL1.out.trans (hb2.mono (by have := KA1.out.lt; omega)))
    clear hb2 KA1 KB1 KC1 KL1 e0 e1 e2
    cases rb with
    | false =>
      have HR := Lib.hid (HNO.out (by simp))
      clear HNO HYES
      go_wp2_with (with_reducible refine ev_store rfl 53 (.tmp 6) (.tmp 17) rfl (n + 1 + 1) (cellsI [0, 0, 0]) rfl rfl 53 _ KC2.out (info_res _ rfl) rfl (cellsI_one _) ?_; intro w9 hb9 hc9 hz9)
      refine bodyPost_ret (res_ct rfl _ (n + 1 + 1) 53 (cellsI [0, 0, 0]) _ rfl hb9 hu rfl (info_res _ rfl)) rfl ⟨by rw [(Prod.mk.inj HR.out).1, (Prod.mk.inj HR.out).2]; rfl, ?_⟩
      exact Chg.belowOf KL2.out hc9 (fun k hk => by omega) (by have := KL2.out.size; omega)
    | true =>
      have d0 := KA2.out.cell (i := 0) rfl
      have d1 := KA2.out.cell (i := 1) rfl
      have d2 := KA2.out.cell (i := 2) rfl
      have e0 := KB2.out.cell (i := 0) rfl
      have e1 := KB2.out.cell (i := 1) rfl
      have e2 := KB2.out.cell (i := 2) rfl
      go_wp2_with fail
      refine (HE.out _).mono ?_
      rintro e w3 ⟨rfl, hb3⟩
      have KC3 := KC2.out.below hb3 KC2.out.lt
      have KL3 := KL2.out.trans (hb3.mono (by have := KA2.out.lt; omega))
      obtain ⟨m, hm⟩ : ∃ m, w3.heap.size = m := ⟨_, rfl⟩
      have KD := Blk.new w3 #[.int .i64 z0, .int .i64 z1, .int .i64 z2] 53
      rw [hm] at KD
      have KC4 := KC3.alloc (.cells #[.int .i64 z0, .int .i64 z1, .int .i64 z2] 53)
      have KL4 := KL3.alloc (by have := KC3.lt; omega) (.cells #[.int .i64 z0, .int .i64 z1, .int .i64 z2] 53)
      have hlt4 : n + 1 + 1 < (w3.alloc (.cells #[.int .i64 z0, .int .i64 z1, .int .i64 z2] 53)).heap.size := KC4.lt
      go_upto_region 4 with fail
      obtain ⟨w4, hw4⟩ : ∃ w4, w3.alloc (.cells #[.int .i64 z0, .int .i64 z1, .int .i64 z2] 53) = w4 := ⟨_, rfl⟩
      rw [hw4] at KD KC4 KL4 hlt4 ⊢
      try rw [hm]
      have KD4 := Lib.hid KD
      have KC5 := Lib.hid KC4
      have KL5 := Lib.hid KL4
      clear hb3 KC3 KL3 KD KC4 KL4 hm hw4 KA2 KB2 KC2 KL2 d0 d1 d2 e0 e1 e2
      have f0 := KD4.out.cell (i := 0) rfl
      have f1 := KD4.out.cell (i := 1) rfl
      have f2 := KD4.out.cell (i := 2) rfl
      go_wp2_with fail
      refine (HRC.out _).mono ?_
      rintro e w5 ⟨rfl, hb5⟩
      have KD6 := Lib.hid (KD4.out.below hb5 KD4.out.lt)
      have KC6 := Lib.hid (KC5.out.below hb5 KC5.out.lt)
      have KL6 := Lib.hid (KL5.out.trans (hb5.mono (by omega)))
      clear hb5 KD4 KC5 KL5 f0 f1 f2
      cases rc with
      | false =>
        have HR := Lib.hid (HNO.out (by simp))
        clear HNO HYES
        go_wp2_with (with_reducible refine ev_store rfl 53 (.tmp 6) (.tmp 25) rfl (n + 1 + 1) (cellsI [0, 0, 0]) rfl rfl 53 _ KC6.out (info_res _ rfl) rfl (cellsI_one _) ?_; intro w9 hb9 hc9 hz9)
        refine bodyPost_ret (res_ct rfl _ (n + 1 + 1) 53 (cellsI [0, 0, 0]) _ rfl hb9 hu rfl (info_res _ rfl)) rfl ⟨by rw [(Prod.mk.inj HR.out).1, (Prod.mk.inj HR.out).2]; rfl, ?_⟩
        exact Chg.belowOf KL6.out hc9 (fun k hk => by omega) (by have := KL6.out.size; omega)
      | true =>
        have HR := Lib.hid (HYES.out (by simp) (by simp) (by simp))
        clear HNO HYES
        have KD7 : Hid (Blk w5 m (cellsI [z0, z1, z2]) 53) := KD6
        clear KD6
        go_wp2_with (first
          | (with_reducible refine ev_load rfl 53 (.tmp 8) rfl m rfl 53 (cellsI [z0, z1, z2]) _ KD7.out hu rfl (info_res _ rfl) ?_)
          | (with_reducible refine ev_store rfl 53 (.tmp 6) (.tmp 26) rfl (n + 1 + 1) (cellsI [z0, z1, z2]) rfl rfl 53 _ KC6.out (info_res _ rfl) rfl (cellsI_one _) ?_; intro w9 hb9 hc9 hz9))
        refine bodyPost_ret (res_ct rfl _ (n + 1 + 1) 53 (cellsI [z0, z1, z2]) _ rfl hb9 hu rfl (info_res _ rfl)) rfl ⟨by rw [(Prod.mk.inj HR.out).1, (Prod.mk.inj HR.out).2]; rfl, ?_⟩
        exact Chg.belowOf KL6.out hc9 (fun k hk => by omega) (by have := KL6.out.size; omega)
set_option maxRecDepth 100000 in
set_option maxHeartbeats 3200000 in
theorem res_both_sub (a b : List Int) (ha : a.length = 3) (hb : b.length = 3) (w : World) :
    Calls Tryd.prog 86 #[.agg (cellsI a), .agg (cellsI b), .func (Fn.func 88) #[] #[]] w fun e w' => e = .returned (.tuple #[.agg (cellsI (bothR subW a b).1), .bool (bothR subW a b).2]) ∧ Below w.heap.size w w' := by
  have hu := Tryd.underlying53
  have hE := res_each_sub a b ha hb
  have hRA := res_right a ha
  have hRB := res_right b hb
  have hzl : (List.zipWith subW a b).length = 3 := by simp [ha, hb]
  have hRC := res_right (List.zipWith subW a b) hzl
  have hno : ¬ (resB a = true ∧ resB b = true ∧ resB (List.zipWith subW a b) = true) → bothR subW a b = ([0, 0, 0], false) := by intro h; unfold bothR; rw [if_neg h]
  have hyes : resB a = true → resB b = true → resB (List.zipWith subW a b) = true → bothR subW a b = (List.zipWith subW a b, true) := by intro h1 h2 h3; unfold bothR; rw [if_pos ⟨h1, h2, h3⟩]
  generalize resB (List.zipWith subW a b) = rc at hRC hno hyes
  obtain ⟨RR, hR⟩ : ∃ RR, bothR subW a b = RR := ⟨_, rfl⟩
  rw [hR] at hno hyes ⊢
  generalize List.zipWith subW a b = z at hE hRC hyes hzl
  generalize resB a = ra at hRA hno hyes
  generalize resB b = rb at hRB hno hyes
  obtain ⟨a0, a1, a2, rfl⟩ := three_of ha
  obtain ⟨b0, b1, b2, rfl⟩ := three_of hb
  obtain ⟨z0, z1, z2, rfl⟩ := three_of hzl
  have ea : cellsI [a0, a1, a2] = #[.int .i64 a0, .int .i64 a1, .int .i64 a2] := rfl
  have eb : cellsI [b0, b1, b2] = #[.int .i64 b0, .int .i64 b1, .int .i64 b2] := rfl
  have ez : cellsI [z0, z1, z2] = #[.int .i64 z0, .int .i64 z1, .int .i64 z2] := rfl
  rw [ea] at hE hRA ⊢
  rw [eb] at hE hRB ⊢
  rw [ez] at hE hRC
  obtain ⟨R1, R2⟩ := RR
  have HE := Lib.hid hE
  have HRA := Lib.hid hRA
  have HRB := Lib.hid hRB
  have HRC := Lib.hid hRC
  have HNO := Lib.hid hno
  have HYES := Lib.hid hyes
  clear hE hRA hRB hRC hno hyes hR ea eb ez ha hb hzl
  obtain ⟨n, hn⟩ : ∃ n, w.heap.size = n := ⟨_, rfl⟩
  obtain ⟨W, hW⟩ : ∃ W, ((w.alloc (.cells #[.int .i64 a0, .int .i64 a1, .int .i64 a2] 53)).alloc (.cells #[.int .i64 b0, .int .i64 b1, .int .i64 b2] 53)).alloc (.cells #[.int .i64 0, .int .i64 0, .int .i64 0] 53) = W := ⟨_, rfl⟩
  have KA : Hid (Blk W n #[.int .i64 a0, .int .i64 a1, .int .i64 a2] 53) := Lib.hid (by rw [← hW, ← hn]; exact ((Blk.new w _ _).alloc _).alloc _)
  have KB : Hid (Blk W (n + 1) #[.int .i64 b0, .int .i64 b1, .int .i64 b2] 53) := Lib.hid (by rw [← hW]; exact (blk_at (w.alloc _) _ _ _ (by simp [hn])).alloc _)
  have KC : Hid (Blk W (n + 1 + 1) #[.int .i64 0, .int .i64 0, .int .i64 0] 53) := Lib.hid (by rw [← hW]; exact blk_at ((w.alloc _).alloc _) _ _ _ (by simp [hn]))
  have KL : Hid (Below n w W) := Lib.hid (by rw [← hW, ← hn]; exact (((Below.refl w.heap.size w).alloc (Nat.le_refl _) _).alloc (by simp) _).alloc (by simp; omega) _)
  have HW := Lib.hid hW
  rw [hn]
  clear hW
  go_enter Tryd.func86, Tryd.ntmps86
  go_upto_region 1 with fail
  rw [HW.out]
  try rw [hn]
  clear HW
  have d0 := KA.out.cell (i := 0) rfl
  have d1 := KA.out.cell (i := 1) rfl
  have d2 := KA.out.cell (i := 2) rfl
  go_wp2_with fail
  refine (HRA.out _).mono ?_
  rintro e w1 ⟨rfl, hb1⟩
  have KA1 := Lib.hid (KA.out.below hb1 KA.out.lt)
  have KB1 := Lib.hid (KB.out.below hb1 KB.out.lt)
  have KC1 := Lib.hid (KC.out.below hb1 KC.out.lt)
  have KL1 := Lib.hid (KL.out.trans (hb1.mono (by have := KA.out.lt; omega)))
  clear hb1 KA KB KC KL d0 d1 d2
  cases ra with
  | false =>
    have HR := Lib.hid (HNO.out (by simp))
    clear HNO HYES
    go_wp2_with (with_reducible refine ev_store rfl 53 (.tmp 6) (.tmp 17) rfl (n + 1 + 1) (cellsI [0, 0, 0]) rfl rfl 53 _ KC1.out (info_res _ rfl) rfl (cellsI_one _) ?_; intro w9 hb9 hc9 hz9)
    refine bodyPost_ret (res_ct rfl _ (n + 1 + 1) 53 (cellsI [0, 0, 0]) _ rfl hb9 hu rfl (info_res _ rfl)) rfl ⟨by rw [(Prod.mk.inj HR.out).1, (Prod.mk.inj HR.out).2]; rfl, ?_⟩
    exact Chg.belowOf KL1.out hc9 (fun k hk => by omega) (by have := KL1.out.size; omega)
  | true =>
    have e0 := KB1.out.cell (i := 0) rfl
    have e1 := KB1.out.cell (i := 1) rfl
    have e2 := KB1.out.cell (i := 2) rfl
    go_wp2_with fail
    refine (HRB.out _).mono ?_
    rintro e w2 ⟨rfl, hb2⟩
    have KA2 := Lib.hid (KA1.out.below hb2 KA1.out.lt)
    have KB2 := Lib.hid (KB1.out.below hb2 KB1.out.lt)
    have KC2 := Lib.hid (KC1.out.below hb2 KC1.out.lt)
    have KL2 := Lib.hid (KL1.out.trans (hb2.mono (by have := KA1.out.lt; omega)))
    clear hb2 KA1 KB1 KC1 KL1 e0 e1 e2
    cases rb with
    | false =>
      have HR := Lib.hid (HNO.out (by simp))
      clear HNO HYES
      go_wp2_with (with_reducible refine ev_store rfl 53 (.tmp 6) (.tmp 17) rfl (n + 1 + 1) (cellsI [0, 0, 0]) rfl rfl 53 _ KC2.out (info_res _ rfl) rfl (cellsI_one _) ?_; intro w9 hb9 hc9 hz9)
      refine bodyPost_ret (res_ct rfl _ (n + 1 + 1) 53 (cellsI [0, 0, 0]) _ rfl hb9 hu rfl (info_res _ rfl)) rfl ⟨by rw [(Prod.mk.inj HR.out).1, (Prod.mk.inj HR.out).2]; rfl, ?_⟩
      exact Chg.belowOf KL2.out hc9 (fun k hk => by omega) (by have := KL2.out.size; omega)
    | true =>
      have d0 := KA2.out.cell (i := 0) rfl
      have d1 := KA2.out.cell (i := 1) rfl
      have d2 := KA2.out.cell (i := 2) rfl
      have e0 := KB2.out.cell (i := 0) rfl
      have e1 := KB2.out.cell (i := 1) rfl
      have e2 := KB2.out.cell (i := 2) rfl
      go_wp2_with fail
      refine (HE.out _).mono ?_
      rintro e w3 ⟨rfl, hb3⟩
      have KC3 := KC2.out.below hb3 KC2.out.lt
      have KL3 := KL2.out.trans (hb3.mono (by have := KA2.out.lt; omega))
      obtain ⟨m, hm⟩ : ∃ m, w3.heap.size = m := ⟨_, rfl⟩
      have KD := Blk.new w3 #[.int .i64 z0, .int .i64 z1, .int .i64 z2] 53
      rw [hm] at KD
      have KC4 := KC3.alloc (.cells #[.int .i64 z0, .int .i64 z1, .int .i64 z2] 53)
      have KL4 := KL3.alloc (by have := KC3.lt; omega) (.cells #[.int .i64 z0, .int .i64 z1, .int .i64 z2] 53)
      have hlt4 : n + 1 + 1 < (w3.alloc (.cells #[.int .i64 z0, .int .i64 z1, .int .i64 z2] 53)).heap.size := KC4.lt
      go_upto_region 4 with fail
      obtain ⟨w4, hw4⟩ : ∃ w4, w3.alloc (.cells #[.int .i64 z0, .int .i64 z1, .int .i64 z2] 53) = w4 := ⟨_, rfl⟩
      rw [hw4] at KD KC4 KL4 hlt4 ⊢
      try rw [hm]
      have KD4 := Lib.hid KD
      have KC5 := Lib.hid KC4
      have KL5 := Lib.hid KL4
      clear hb3 KC3 KL3 KD KC4 KL4 hm hw4 KA2 KB2 KC2 KL2 d0 d1 d2 e0 e1 e2
      have f0 := KD4.out.cell (i := 0) rfl
      have f1 := KD4.out.cell (i := 1) rfl
      have f2 := KD4.out.cell (i := 2) rfl
      go_wp2_with fail
      refine (HRC.out _).mono ?_
      rintro e w5 ⟨rfl, hb5⟩
      have KD6 := Lib.hid (KD4.out.below hb5 KD4.out.lt)
      have KC6 := Lib.hid (KC5.out.below hb5 KC5.out.lt)
      have KL6 := Lib.hid (KL5.out.trans (hb5.mono (by omega)))
      clear hb5 KD4 KC5 KL5 f0 f1 f2
      cases rc with
      | false =>
        have HR := Lib.hid (HNO.out (by simp))
        clear HNO HYES
        go_wp2_with (with_reducible refine ev_store rfl 53 (.tmp 6) (.tmp 25) rfl (n + 1 + 1) (cellsI [0, 0, 0]) rfl rfl 53 _ KC6.out (info_res _ rfl) rfl (cellsI_one _) ?_; intro w9 hb9 hc9 hz9)
        refine bodyPost_ret (res_ct rfl _ (n + 1 + 1) 53 (cellsI [0, 0, 0]) _ rfl hb9 hu rfl (info_res _ rfl)) rfl ⟨by rw [(Prod.mk.inj HR.out).1, (Prod.mk.inj HR.out).2]; rfl, ?_⟩
        exact Chg.belowOf KL6.out hc9 (fun k hk => by omega) (by have := KL6.out.size; omega)
      | true =>
        have HR := Lib.hid (HYES.out (by simp) (by simp) (by simp))
        clear HNO HYES
        have KD7 : Hid (Blk w5 m (cellsI [z0, z1, z2]) 53) := KD6
        clear KD6
        go_wp2_with (first
          | (with_reducible refine ev_load rfl 53 (.tmp 8) rfl m rfl 53 (cellsI [z0, z1, z2]) _ KD7.out hu rfl (info_res _ rfl) ?_)
          | (with_reducible refine ev_store rfl 53 (.tmp 6) (.tmp 26) rfl (n + 1 + 1) (cellsI [z0, z1, z2]) rfl rfl 53 _ KC6.out (info_res _ rfl) rfl (cellsI_one _) ?_; intro w9 hb9 hc9 hz9))
        refine bodyPost_ret (res_ct rfl _ (n + 1 + 1) 53 (cellsI [z0, z1, z2]) _ rfl hb9 hu rfl (info_res _ rfl)) rfl ⟨by rw [(Prod.mk.inj HR.out).1, (Prod.mk.inj HR.out).2]; rfl, ?_⟩
        exact Chg.belowOf KL6.out hc9 (fun k hk => by omega) (by have := KL6.out.size; omega)
end Go.Proofs.YtogjckengmkfiaaDoor
