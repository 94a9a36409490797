/-
  What is pure of a message (the reference of reeve's layer 35): the walk.
-/
import Derived.Test.YtanihdpgblkeaaaGreatDoorMsgRefMade
namespace Go.Proofs.YtanihdpgblkeaaaGreatDoor
open Go.RowKit
set_option linter.unusedVariables false
set_option linter.unusedSimpArgs false

theorem blk_set12 {w : World} {g : Nat} {u0 u1 u2 u3 u4 u5 u6 u7 u8 u9 u10 u11 : Value} {t : TypeId} (hB : Blk w g #[u0, u1, u2, u3, u4, u5, u6, u7, u8, u9, u10, u11] t) (v0 v1 v2 v3 v4 v5 v6 v7 v8 v9 v10 v11 : Value) :
    Blk ((((((((((((w.setCell ⟨g, 0, none⟩ v0).setCell ⟨g, 1, none⟩ v1).setCell ⟨g, 2, none⟩ v2).setCell ⟨g, 3, none⟩ v3).setCell ⟨g, 4, none⟩ v4).setCell ⟨g, 5, none⟩ v5).setCell ⟨g, 6, none⟩ v6).setCell ⟨g, 7, none⟩ v7).setCell ⟨g, 8, none⟩ v8).setCell ⟨g, 9, none⟩ v9).setCell ⟨g, 10, none⟩ v10).setCell ⟨g, 11, none⟩ v11) g #[v0, v1, v2, v3, v4, v5, v6, v7, v8, v9, v10, v11] t := by
  have h1 := (((((((((((hB.set 0 v0).set 1 v1).set 2 v2).set 3 v3).set 4 v4).set 5 v5).set 6 v6).set 7 v7).set 8 v8).set 9 v9).set 10 v10).set 11 v11
  have e : ((((((((((((#[u0, u1, u2, u3, u4, u5, u6, u7, u8, u9, u10, u11] : Array Value).setIfInBounds 0 v0).setIfInBounds 1 v1).setIfInBounds 2 v2).setIfInBounds 3 v3).setIfInBounds 4 v4).setIfInBounds 5 v5).setIfInBounds 6 v6).setIfInBounds 7 v7).setIfInBounds 8 v8).setIfInBounds 9 v9).setIfInBounds 10 v10).setIfInBounds 11 v11 = #[v0, v1, v2, v3, v4, v5, v6, v7, v8, v9, v10, v11] := by simp
  rw [e] at h1
  exact h1
theorem blk_off12 {w : World} {g X : Nat} {cs : Array Value} {t : TypeId} (hB : Blk w g cs t) (hne : ¬ X = g) (v0 v1 v2 v3 v4 v5 v6 v7 v8 v9 v10 v11 : Value) : Blk ((((((((((((w.setCell ⟨X, 0, none⟩ v0).setCell ⟨X, 1, none⟩ v1).setCell ⟨X, 2, none⟩ v2).setCell ⟨X, 3, none⟩ v3).setCell ⟨X, 4, none⟩ v4).setCell ⟨X, 5, none⟩ v5).setCell ⟨X, 6, none⟩ v6).setCell ⟨X, 7, none⟩ v7).setCell ⟨X, 8, none⟩ v8).setCell ⟨X, 9, none⟩ v9).setCell ⟨X, 10, none⟩ v10).setCell ⟨X, 11, none⟩ v11) g cs t :=
  (((((((((((hB.far (a := ⟨X, 0, none⟩) hne v0).far (a := ⟨X, 1, none⟩) hne v1).far (a := ⟨X, 2, none⟩) hne v2).far (a := ⟨X, 3, none⟩) hne v3).far (a := ⟨X, 4, none⟩) hne v4).far (a := ⟨X, 5, none⟩) hne v5).far (a := ⟨X, 6, none⟩) hne v6).far (a := ⟨X, 7, none⟩) hne v7).far (a := ⟨X, 8, none⟩) hne v8).far (a := ⟨X, 9, none⟩) hne v9).far (a := ⟨X, 10, none⟩) hne v10).far (a := ⟨X, 11, none⟩) hne v11
theorem below_set12 {B : Nat} {w0 w : World} {g : Nat} (hb : Below B w0 w) (hg : B ≤ g) (v0 v1 v2 v3 v4 v5 v6 v7 v8 v9 v10 v11 : Value) : Below B w0 ((((((((((((w.setCell ⟨g, 0, none⟩ v0).setCell ⟨g, 1, none⟩ v1).setCell ⟨g, 2, none⟩ v2).setCell ⟨g, 3, none⟩ v3).setCell ⟨g, 4, none⟩ v4).setCell ⟨g, 5, none⟩ v5).setCell ⟨g, 6, none⟩ v6).setCell ⟨g, 7, none⟩ v7).setCell ⟨g, 8, none⟩ v8).setCell ⟨g, 9, none⟩ v9).setCell ⟨g, 10, none⟩ v10).setCell ⟨g, 11, none⟩ v11) :=
  (((((((((((hb.setCell (p := ⟨g, 0, none⟩) hg v0).setCell (p := ⟨g, 1, none⟩) hg v1).setCell (p := ⟨g, 2, none⟩) hg v2).setCell (p := ⟨g, 3, none⟩) hg v3).setCell (p := ⟨g, 4, none⟩) hg v4).setCell (p := ⟨g, 5, none⟩) hg v5).setCell (p := ⟨g, 6, none⟩) hg v6).setCell (p := ⟨g, 7, none⟩) hg v7).setCell (p := ⟨g, 8, none⟩) hg v8).setCell (p := ⟨g, 9, none⟩) hg v9).setCell (p := ⟨g, 10, none⟩) hg v10).setCell (p := ⟨g, 11, none⟩) hg v11
/-- The numbers laid again are what is pure. -/
theorem mmade_pure (l : List Int) (h : offsM (fld l 0) ≠ []) : layZ (offsM (fld l 0)) (numsM l) (bare3 (fld l 0) (fld l 1) (fld l 2)) = pureM l := by
  unfold numsM pureM
  rw [if_neg h, layZ_map]
set_option maxRecDepth 100000 in
set_option maxHeartbeats 3200000 in
theorem ref35_pure (l : List Int) (hl : l.length = 12) (w : World) :
    Calls Tryz.prog 28 #[.agg (cellsI l)] w fun e w' => e = .returned (.agg (cellsI (pureM l))) ∧ Below w.heap.size w w' := by
  have hu := Tryz.underlying25
  have hN := ref35_numbers l hl
  have hM := fun (h : offsM (fld l 0) ≠ []) => ref35_made (fld l 0) (fld l 1) (fld l 2) (numsM l) (by unfold numsM; rw [List.length_map])
  have hP := mmade_pure l
  have hP0 : offsM (fld l 0) = [] → pureM l = bare3 0 0 0 := by intro h; unfold pureM; rw [if_pos h]
  obtain ⟨p0, p1, p2, p3, p4, p5, p6, p7, p8, p9, p10, p11, hpl⟩ := twelve_of (pureM_length l)
  rw [hpl] at hP hP0 ⊢
  clear hpl
  generalize numsM l = ns at hN hM hP
  obtain ⟨a0, a1, a2, a3, a4, a5, a6, a7, a8, a9, a10, a11, rfl⟩ := twelve_of hl
  clear hl
  have hf0 : fld [a0, a1, a2, a3, a4, a5, a6, a7, a8, a9, a10, a11] 0 = a0 := rfl
  have hf1 : fld [a0, a1, a2, a3, a4, a5, a6, a7, a8, a9, a10, a11] 1 = a1 := rfl
  have hf2 : fld [a0, a1, a2, a3, a4, a5, a6, a7, a8, a9, a10, a11] 2 = a2 := rfl
  rw [hf0] at hM hP hP0
  rw [hf1, hf2] at hM hP
  clear hf0 hf1 hf2
  have hcell : cellsI [a0, a1, a2, a3, a4, a5, a6, a7, a8, a9, a10, a11] = #[.int .i64 a0, .int .i64 a1, .int .i64 a2, .int .i64 a3, .int .i64 a4, .int .i64 a5, .int .i64 a6, .int .i64 a7, .int .i64 a8, .int .i64 a9, .int .i64 a10, .int .i64 a11] := rfl
  have hpc : cellsI [p0, p1, p2, p3, p4, p5, p6, p7, p8, p9, p10, p11] = #[.int .i64 p0, .int .i64 p1, .int .i64 p2, .int .i64 p3, .int .i64 p4, .int .i64 p5, .int .i64 p6, .int .i64 p7, .int .i64 p8, .int .i64 p9, .int .i64 p10, .int .i64 p11] := rfl
  rw [hcell] at hN ⊢
  rw [hpc]
  clear hcell
  obtain ⟨g, hg⟩ : ∃ g, w.heap.size = g := ⟨_, rfl⟩
  obtain ⟨W, hW⟩ : ∃ W, (w.alloc (.cells #[.int .i64 a0, .int .i64 a1, .int .i64 a2, .int .i64 a3, .int .i64 a4, .int .i64 a5, .int .i64 a6, .int .i64 a7, .int .i64 a8, .int .i64 a9, .int .i64 a10, .int .i64 a11] 25)).alloc (.cells #[.int .i64 0, .int .i64 0, .int .i64 0, .int .i64 0, .int .i64 0, .int .i64 0, .int .i64 0, .int .i64 0, .int .i64 0, .int .i64 0, .int .i64 0, .int .i64 0] 25) = W := ⟨_, rfl⟩
  have HB : Hid (Blk W g #[.int .i64 a0, .int .i64 a1, .int .i64 a2, .int .i64 a3, .int .i64 a4, .int .i64 a5, .int .i64 a6, .int .i64 a7, .int .i64 a8, .int .i64 a9, .int .i64 a10, .int .i64 a11] 25) := Lib.hid (by rw [← hW, ← hg]; exact (Blk.new w _ _).alloc _)
  have HA : Hid (Blk W (g + 1) #[.int .i64 0, .int .i64 0, .int .i64 0, .int .i64 0, .int .i64 0, .int .i64 0, .int .i64 0, .int .i64 0, .int .i64 0, .int .i64 0, .int .i64 0, .int .i64 0] 25) := Lib.hid (by rw [← hW, ← hg]; exact blk_second w _ _ _ _)
  have HL : Hid (Below g w W) := Lib.hid (by rw [← hW, ← hg]; exact ((Below.refl w.heap.size w).alloc (Nat.le_refl _) _).alloc (by simp) _)
  rw [hg]
  have HG := Lib.hid hg
  have HW := Lib.hid hW
  have HN := Lib.hid hN
  have HM := Lib.hid hM
  have HP := Lib.hid hP
  have HP0 := Lib.hid hP0
  have HPC := Lib.hid hpc
  clear hW hN hM hP hP0 hpc hg
  have c0 := HB.out.cell (i := 0) rfl
  go_enter Tryz.func28, Tryz.ntmps28
  go_upto_region 1 with fail
  rw [HW.out]
  try rw [HG.out]
  clear HW
  go_wp2_with fail
  refine (ref35_names a0 W).mono ?_
  rintro e w1 ⟨rfl, hb1⟩
  have HB1 := Lib.hid (HB.out.below hb1 HB.out.lt)
  have HA1 := Lib.hid (HA.out.below hb1 HA.out.lt)
  have HL1 : Hid (Below g w w1) := Lib.hid (HL.out.trans (hb1.mono (by rw [← HG.out]; exact HL.out.size)))
  clear hb1 c0 HB HA HL
  have hgs : g ≤ w1.heap.size := by have := HB1.out.lt; omega
  by_cases h0 : offsM a0 = []
  · have hn0 : nmM a0 = [] := (nmM_nil a0).2 h0
    rw [hn0]
    have hp0 := HP0.out h0
    have HPC0 : Hid (#[.int .i64 p0, .int .i64 p1, .int .i64 p2, .int .i64 p3, .int .i64 p4, .int .i64 p5, .int .i64 p6, .int .i64 p7, .int .i64 p8, .int .i64 p9, .int .i64 p10, .int .i64 p11] = cellsI (bare3 0 0 0)) := Lib.hid (by rw [← HPC.out, hp0])
    clear h0 hn0 hp0
    have hstr : str [] = ⟨#[]⟩ := rfl
    rw [hstr]
    clear hstr
    have HA2 : Hid (Blk w1 (g + 1) (cellsI (bare3 0 0 0)) 25) := Lib.hid HA1.out
    go_wp2_with (with_reducible refine ev_store rfl 25 (.tmp 2) (.tmp 7) rfl (g + 1) (cellsI (bare3 0 0 0)) rfl rfl 25 _ HA2.out (by kernel_rfl) rfl (cellsI_one _) ?_; intro w9 hb9 hc9 hz9)
    refine bodyPost_ret (res_c rfl _ (g + 1) 25 (cellsI (bare3 0 0 0)) _ rfl hb9 hu rfl (by kernel_rfl)) rfl ⟨by rw [HPC0.out], ?_⟩
    exact Chg.belowOf HL1.out hc9 (fun k hk => by omega) hgs
  · have hne : (str (nmM a0)).toList.isEmpty = false := str_empty_ne (fun e => h0 ((nmM_nil a0).1 (str_inj_p (e.trans rfl : str (nmM a0) = str []))))
    have HMK : Hid (∀ v (wx : World), RowV 0 wx v (ns.map (Value.int .i64)) → Calls Tryz.prog 49 #[.int .i64 a0, .int .i64 a1, .int .i64 a2, v] wx fun e w' => e = .returned (.agg #[.int .i64 p0, .int .i64 p1, .int .i64 p2, .int .i64 p3, .int .i64 p4, .int .i64 p5, .int .i64 p6, .int .i64 p7, .int .i64 p8, .int .i64 p9, .int .i64 p10, .int .i64 p11]) ∧ Below wx.heap.size wx w') := Lib.hid (fun v wx hv => by have := HM.out h0 v wx hv; rw [HP.out h0, HPC.out] at this; exact this)
    generalize str (nmM a0) = S at hne ⊢
    clear h0 HP HP0 HM
    go_upto_region 3 with fail
    refine wp_region_held_drew (S := (fun w' => Blk w' g #[.int .i64 a0, .int .i64 a1, .int .i64 a2, .int .i64 a3, .int .i64 a4, .int .i64 a5, .int .i64 a6, .int .i64 a7, .int .i64 a8, .int .i64 a9, .int .i64 a10, .int .i64 a11] 25)) (by kernel_rfl) HB1.out (fun hHeld => ?_)
    refine wpAnyH_take (i := 0) (oi := ({ dst := some 8, op := Op.fieldAddr 25 (Operand.tmp 1) 0, type := 0, pos := "ref.go:102", after := #[], guard := none })) (v := (.pointer (some ⟨g, 0, none⟩))) rfl (by kernel_rfl) (by kernel_rfl) (by kernel_rfl) (fun _ _ _ h => h) (Or.inl ⟨by rfl, ?_⟩) (by assumption) ?_
    · (intro w hSw; have s0 := hSw.cell (i := 0) rfl; have s1 := hSw.cell (i := 1) rfl; have s2 := hSw.cell (i := 2) rfl; have s3 := hSw.cell (i := 3) rfl; have s4 := hSw.cell (i := 4) rfl; have s5 := hSw.cell (i := 5) rfl; have s6 := hSw.cell (i := 6) rfl; have s7 := hSw.cell (i := 7) rfl; have s8 := hSw.cell (i := 8) rfl; have s9 := hSw.cell (i := 9) rfl; have s10 := hSw.cell (i := 10) rfl; have s11 := hSw.cell (i := 11) rfl; go_simp)
    try simp only [Act.put, List.setIfInBounds_toArray, List.set_cons_zero, List.set_cons_succ]
    refine wpAnyH_take (i := 1) (oi := ({ dst := some 9, op := Op.load 3 (Operand.tmp 8), type := 3, pos := "ref.go:102", after := #[{ on := 0, ground := Ground.data }], guard := none })) (v := (.int .i64 a0)) rfl (by kernel_rfl) (by kernel_rfl) (by kernel_rfl) (fun _ _ _ h => h) (Or.inl ⟨by rfl, ?_⟩) (by assumption) ?_
    · (intro w hSw; have s0 := hSw.cell (i := 0) rfl; have s1 := hSw.cell (i := 1) rfl; have s2 := hSw.cell (i := 2) rfl; have s3 := hSw.cell (i := 3) rfl; have s4 := hSw.cell (i := 4) rfl; have s5 := hSw.cell (i := 5) rfl; have s6 := hSw.cell (i := 6) rfl; have s7 := hSw.cell (i := 7) rfl; have s8 := hSw.cell (i := 8) rfl; have s9 := hSw.cell (i := 9) rfl; have s10 := hSw.cell (i := 10) rfl; have s11 := hSw.cell (i := 11) rfl; go_simp)
    try simp only [Act.put, List.setIfInBounds_toArray, List.set_cons_zero, List.set_cons_succ]
    refine wpAnyH_take (i := 2) (oi := ({ dst := some 10, op := Op.fieldAddr 25 (Operand.tmp 1) 1, type := 0, pos := "ref.go:102", after := #[], guard := none })) (v := (.pointer (some ⟨g, 1, none⟩))) rfl (by kernel_rfl) (by kernel_rfl) (by kernel_rfl) (fun _ _ _ h => h) (Or.inl ⟨by rfl, ?_⟩) (by assumption) ?_
    · (intro w hSw; have s0 := hSw.cell (i := 0) rfl; have s1 := hSw.cell (i := 1) rfl; have s2 := hSw.cell (i := 2) rfl; have s3 := hSw.cell (i := 3) rfl; have s4 := hSw.cell (i := 4) rfl; have s5 := hSw.cell (i := 5) rfl; have s6 := hSw.cell (i := 6) rfl; have s7 := hSw.cell (i := 7) rfl; have s8 := hSw.cell (i := 8) rfl; have s9 := hSw.cell (i := 9) rfl; have s10 := hSw.cell (i := 10) rfl; have s11 := hSw.cell (i := 11) rfl; go_simp)
    try simp only [Act.put, List.setIfInBounds_toArray, List.set_cons_zero, List.set_cons_succ]
    refine wpAnyH_take (i := 3) (oi := ({ dst := some 11, op := Op.load 3 (Operand.tmp 10), type := 3, pos := "ref.go:102", after := #[{ on := 2, ground := Ground.data }], guard := none })) (v := (.int .i64 a1)) rfl (by kernel_rfl) (by kernel_rfl) (by kernel_rfl) (fun _ _ _ h => h) (Or.inl ⟨by rfl, ?_⟩) (by assumption) ?_
    · (intro w hSw; have s0 := hSw.cell (i := 0) rfl; have s1 := hSw.cell (i := 1) rfl; have s2 := hSw.cell (i := 2) rfl; have s3 := hSw.cell (i := 3) rfl; have s4 := hSw.cell (i := 4) rfl; have s5 := hSw.cell (i := 5) rfl; have s6 := hSw.cell (i := 6) rfl; have s7 := hSw.cell (i := 7) rfl; have s8 := hSw.cell (i := 8) rfl; have s9 := hSw.cell (i := 9) rfl; have s10 := hSw.cell (i := 10) rfl; have s11 := hSw.cell (i := 11) rfl; go_simp)
    try simp only [Act.put, List.setIfInBounds_toArray, List.set_cons_zero, List.set_cons_succ]
    refine wpAnyH_take (i := 4) (oi := ({ dst := some 12, op := Op.fieldAddr 25 (Operand.tmp 1) 2, type := 0, pos := "ref.go:102", after := #[], guard := none })) (v := (.pointer (some ⟨g, 2, none⟩))) rfl (by kernel_rfl) (by kernel_rfl) (by kernel_rfl) (fun _ _ _ h => h) (Or.inl ⟨by rfl, ?_⟩) (by assumption) ?_
    · (intro w hSw; have s0 := hSw.cell (i := 0) rfl; have s1 := hSw.cell (i := 1) rfl; have s2 := hSw.cell (i := 2) rfl; have s3 := hSw.cell (i := 3) rfl; have s4 := hSw.cell (i := 4) rfl; have s5 := hSw.cell (i := 5) rfl; have s6 := hSw.cell (i := 6) rfl; have s7 := hSw.cell (i := 7) rfl; have s8 := hSw.cell (i := 8) rfl; have s9 := hSw.cell (i := 9) rfl; have s10 := hSw.cell (i := 10) rfl; have s11 := hSw.cell (i := 11) rfl; go_simp)
    try simp only [Act.put, List.setIfInBounds_toArray, List.set_cons_zero, List.set_cons_succ]
    refine wpAnyH_take (i := 5) (oi := ({ dst := some 13, op := Op.load 3 (Operand.tmp 12), type := 3, pos := "ref.go:102", after := #[{ on := 4, ground := Ground.data }], guard := none })) (v := (.int .i64 a2)) rfl (by kernel_rfl) (by kernel_rfl) (by kernel_rfl) (fun _ _ _ h => h) (Or.inl ⟨by rfl, ?_⟩) (by assumption) ?_
    · (intro w hSw; have s0 := hSw.cell (i := 0) rfl; have s1 := hSw.cell (i := 1) rfl; have s2 := hSw.cell (i := 2) rfl; have s3 := hSw.cell (i := 3) rfl; have s4 := hSw.cell (i := 4) rfl; have s5 := hSw.cell (i := 5) rfl; have s6 := hSw.cell (i := 6) rfl; have s7 := hSw.cell (i := 7) rfl; have s8 := hSw.cell (i := 8) rfl; have s9 := hSw.cell (i := 9) rfl; have s10 := hSw.cell (i := 10) rfl; have s11 := hSw.cell (i := 11) rfl; go_simp)
    try simp only [Act.put, List.setIfInBounds_toArray, List.set_cons_zero, List.set_cons_succ]
    refine wpAnyH_take (i := 6) (oi := ({ dst := some 14, op := Op.load 25 (Operand.tmp 1), type := 25, pos := "ref.go:102", after := #[], guard := none })) (v := (.agg #[.int .i64 a0, .int .i64 a1, .int .i64 a2, .int .i64 a3, .int .i64 a4, .int .i64 a5, .int .i64 a6, .int .i64 a7, .int .i64 a8, .int .i64 a9, .int .i64 a10, .int .i64 a11])) rfl (by kernel_rfl) (by kernel_rfl) (by kernel_rfl) (fun _ _ _ h => h) (Or.inl ⟨by rfl, ?_⟩) (by assumption) ?_
    · (intro w hSw; have s0 := hSw.cell (i := 0) rfl; have s1 := hSw.cell (i := 1) rfl; have s2 := hSw.cell (i := 2) rfl; have s3 := hSw.cell (i := 3) rfl; have s4 := hSw.cell (i := 4) rfl; have s5 := hSw.cell (i := 5) rfl; have s6 := hSw.cell (i := 6) rfl; have s7 := hSw.cell (i := 7) rfl; have s8 := hSw.cell (i := 8) rfl; have s9 := hSw.cell (i := 9) rfl; have s10 := hSw.cell (i := 10) rfl; have s11 := hSw.cell (i := 11) rfl; go_simp)
    try simp only [Act.put, List.setIfInBounds_toArray, List.set_cons_zero, List.set_cons_succ]
    refine wpAnyH_ready (rs := [7]) (by kernel_rfl) (by simp) (AllReadyH.cons (o := ({ dst := some 15, op := Op.call { callee := Callee.value (Operand.func 40), args := #[Operand.tmp 14], argTypes := #[25] }, type := 60, pos := "ref.go:102", after := #[{ on := 6, ground := Ground.data }], guard := none })) rfl (fun K hK => ?_) AllReadyH.nil)
    go_simp
    refine (HN.out _).mono ?_
    rintro e w4 ⟨v4, rfl, ho4, hb4⟩
    have hb4 : Below w1.heap.size w1 w4 := ⟨hb4.os, hb4.tape, hb4.output, hb4.size, hb4.block⟩
    have hr4 := ho4.row.mono (Nat.zero_le _)
    go_wp2_with fail
    clear hHeld
    refine hK.out _ _ (HB1.out.below hb4 HB1.out.lt) (fun hHeld => ?_)
    clear hK K
    try simp only [Act.put, List.setIfInBounds_toArray, List.set_cons_zero, List.set_cons_succ]
    refine wpAnyH_ready (rs := [8]) (by kernel_rfl) (by simp) (AllReadyH.cons (o := ({ dst := some 16, op := Op.call { callee := Callee.value (Operand.func 49), args := #[Operand.tmp 9, Operand.tmp 11, Operand.tmp 13, Operand.tmp 15], argTypes := #[3, 3, 3, 60] }, type := 25, pos := "ref.go:102", after := #[{ on := 1, ground := Ground.data }, { on := 3, ground := Ground.data }, { on := 5, ground := Ground.data }, { on := 7, ground := Ground.data }, { on := 7, ground := Ground.chain }], guard := none })) rfl (fun K hK => ?_) AllReadyH.nil)
    go_simp
    refine (HMK.out _ _ (by exact hr4)).mono ?_
    rintro e w5 ⟨rfl, hb5⟩
    have hb5 : Below w1.heap.size w1 w5 := hb4.trans (Below.mono ⟨hb5.os, hb5.tape, hb5.output, hb5.size, hb5.block⟩ hb4.size)
    have hA5 := HA1.out.below hb5 HA1.out.lt
    have hB5 := HB1.out.below hb5 HB1.out.lt
    have HL5 : Hid (Below g w w5) := Lib.hid (HL1.out.trans (hb5.mono hgs))
    go_wp2_with fail
    clear hHeld
    refine hK.out _ _ hB5 (fun hHeld => ?_)
    clear hK K
    try simp only [Act.put, List.setIfInBounds_toArray, List.set_cons_zero, List.set_cons_succ]
    refine wpAnyH_ready (rs := [9]) (by kernel_rfl) (by simp) (AllReadyH.cons (o := ({ dst := none, op := Op.store 25 (Operand.tmp 2) (Operand.tmp 16), type := 0, pos := "ref.go:102", after := #[{ on := 8, ground := Ground.data }, { on := 8, ground := Ground.chain }, { on := 0, ground := Ground.phase }, { on := 1, ground := Ground.phase }, { on := 2, ground := Ground.phase }, { on := 3, ground := Ground.phase }, { on := 4, ground := Ground.phase }, { on := 5, ground := Ground.phase }, { on := 6, ground := Ground.phase }, { on := 7, ground := Ground.phase }, { on := 8, ground := Ground.phase }], guard := none })) rfl (fun K hK => ?_) AllReadyH.nil)
    have q0 := hA5.cell (i := 0) rfl
    have q1 := hA5.cell (i := 1) rfl
    have q2 := hA5.cell (i := 2) rfl
    have q3 := hA5.cell (i := 3) rfl
    have q4 := hA5.cell (i := 4) rfl
    have q5 := hA5.cell (i := 5) rfl
    have q6 := hA5.cell (i := 6) rfl
    have q7 := hA5.cell (i := 7) rfl
    have q8 := hA5.cell (i := 8) rfl
    have q9 := hA5.cell (i := 9) rfl
    have q10 := hA5.cell (i := 10) rfl
    have q11 := hA5.cell (i := 11) rfl
    have qf := hA5.free
    go_simp
    clear hHeld
    refine hK.out _ _ (blk_off12 hB5 (by omega) (.int .i64 p0) (.int .i64 p1) (.int .i64 p2) (.int .i64 p3) (.int .i64 p4) (.int .i64 p5) (.int .i64 p6) (.int .i64 p7) (.int .i64 p8) (.int .i64 p9) (.int .i64 p10) (.int .i64 p11)) (fun hHeld => ?_)
    clear hK K
    try simp only [Act.put, List.setIfInBounds_toArray, List.set_cons_zero, List.set_cons_succ]
    refine wpAnyH_done (by kernel_rfl) ?_ _
    clear hHeld
    have HBS := Lib.hid (blk_set12 hA5 (.int .i64 p0) (.int .i64 p1) (.int .i64 p2) (.int .i64 p3) (.int .i64 p4) (.int .i64 p5) (.int .i64 p6) (.int .i64 p7) (.int .i64 p8) (.int .i64 p9) (.int .i64 p10) (.int .i64 p11))
    have HLS := Lib.hid (below_set12 HL5.out (show g ≤ g + 1 by omega) (.int .i64 p0) (.int .i64 p1) (.int .i64 p2) (.int .i64 p3) (.int .i64 p4) (.int .i64 p5) (.int .i64 p6) (.int .i64 p7) (.int .i64 p8) (.int .i64 p9) (.int .i64 p10) (.int .i64 p11))
    clear hA5 hB5 q0 q1 q2 q3 q4 q5 q6 q7 q8 q9 q10 q11 qf hb4 hb5 hr4 ho4
    go_wp2_with fail
    refine bodyPost_ret (res_c rfl _ (g + 1) 25 #[.int .i64 p0, .int .i64 p1, .int .i64 p2, .int .i64 p3, .int .i64 p4, .int .i64 p5, .int .i64 p6, .int .i64 p7, .int .i64 p8, .int .i64 p9, .int .i64 p10, .int .i64 p11] _ rfl HBS.out hu rfl (by kernel_rfl)) rfl ⟨rfl, HLS.out⟩
end Go.Proofs.YtanihdpgblkeaaaGreatDoor
