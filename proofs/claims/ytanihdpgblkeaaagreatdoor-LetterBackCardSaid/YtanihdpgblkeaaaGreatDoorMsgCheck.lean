/-
  The error of a message (reeve's layer 35): the walk.
-/
import Derived.Test.YtanihdpgblkeaaaGreatDoorMsgRight
import Derived.Test.YtanihdpgblkeaaaGreatDoorMsgName
import Derived.Test.YtanihdpgblkeaaaGreatDoorDecAll
namespace Go.Proofs.YtanihdpgblkeaaaGreatDoor
open Go.RowKit
set_option linter.unusedVariables false
set_option linter.unusedSimpArgs false

/-- What is asked of the world's variables. -/
structure LaidM (w : World) : Prop where
  laid : Laid w
  ways : ∀ i : Nat, i < 8 → w.cell? ⟨1, i * 2, none⟩ = some (.int .i64 (waysF (i + 1 : Nat)).1) ∧ w.cell? ⟨1, i * 2 + 1, none⟩ = some (.int .i64 (waysF (i + 1 : Nat)).2)
theorem LaidM.lt {w : World} (h : LaidM w) : 1 < w.heap.size := World.block_lt_of_cell? w _ (h.ways 0 (by decide)).1
theorem LaidM.below {w w' : World} (h : LaidM w) (hb : Below w.heap.size w w') : LaidM w' :=
  ⟨h.laid.below hb, fun i hi => ⟨keepB hb (h.ways i hi).1 h.lt, keepB hb (h.ways i hi).2 h.lt⟩⟩
set_option maxRecDepth 100000 in
theorem neq_two (a0 a1 b0 b1 : Int) (w : World) : (binOp .neq 96 (.agg #[.int .i64 a0, .int .i64 a1]) (.agg #[.int .i64 b0, .int .i64 b1])).run Tryz.prog w = .ok (.bool (!decide ((a0, a1) = (b0, b1)))) w := by
  have p0 : ∀ (x y : Value) (w : World), (part 3 #[x, y] 0).run Tryz.prog w = .ok x w := fun _ _ _ => by kernel_rfl
  have p1 : ∀ (x y : Value) (w : World), (part 3 #[x, y] 1).run Tryz.prog w = .ok y w := fun _ _ _ => by kernel_rfl
  have hs : ∀ w, (sizeOf 3).run Tryz.prog w = .ok 1 w := fun _ => by kernel_rfl
  have hr : List.range' 0 2 = [0, 1] := rfl
  have hd : ∀ d : Nat, (Op.equalIn (d + 2) 96 (.agg #[.int .i64 a0, .int .i64 a1]) (.agg #[.int .i64 b0, .int .i64 b1])).run Tryz.prog w = .ok (a0 == b0 && a1 == b1) w := by
    intro d
    have he : ∀ (a b : Int) (w : World), (Op.equalIn (d + 1) 3 (.int .i64 a) (.int .i64 b)).run Tryz.prog w = .ok (a == b) w := fun a b w => run_equalIn_int w d _ _ _ a b Tryz.underlying3
    rw [Op.equalIn]
    simp only [Sem.run_bind, run_underlying Tryz.underlying96, Result.andThen_ok, hs]
    by_cases e0 : a0 = b0 <;> by_cases e1 : a1 = b1 <;> simp [Std.Legacy.Range.forIn_eq_forIn_range', hr, p0, p1, he, e0, e1]
  rw [run_neq_struct, hd 9998]
  by_cases e0 : a0 = b0 <;> by_cases e1 : a1 = b1 <;> simp [e0, e1, Result.andThen]
set_option maxRecDepth 100000 in
set_option maxHeartbeats 3200000 in
theorem msg_check (l : List Int) (hl : l.length = 12) (w : World) (hL : LaidM w) :
    Calls Tryz.prog 30 #[.agg (cellsI l)] w fun e w' => e = .returned (.int .i64 (checkM l)) ∧ Below w.heap.size w w' := by
  have HP := msg_pure l hl
  have HR := msg_right l hl
  have hpl := pureM_length l
  have hneq := neq_msg (pureM l) l hpl hl
  have hchk : checkM l = if offsM (fld l 0) = [] then 5 else if pureM l ≠ l ∨ (placeI (fld l 1), placeI (fld l 2)) ≠ waysF (fld l 0) ∨ rightM l = false then 1 else 0 := rfl
  obtain ⟨CK, hCK⟩ : ∃ c, checkM l = c := ⟨_, rfl⟩
  rw [hCK] at hchk ⊢
  clear hCK
  generalize rightM l = r at HR hchk
  obtain ⟨PC, hPC⟩ : ∃ C, cellsI (pureM l) = C := ⟨_, rfl⟩
  rw [hPC] at HP hneq
  clear hPC
  have hpq : ∃ q : Bool, decide (pureM l = l) = q ∧ (pureM l ≠ l ↔ q = false) := ⟨_, rfl, by simp⟩
  obtain ⟨q, hq, hqi⟩ := hpq
  rw [hq] at hneq
  simp only [hqi] at hchk
  clear hq hqi hpl
  obtain ⟨a0, a1, a2, a3, a4, a5, a6, a7, a8, a9, a10, a11, rfl⟩ := twelve_of hl
  clear hl
  have hk : fld [a0, a1, a2, a3, a4, a5, a6, a7, a8, a9, a10, a11] 0 = a0 := rfl
  have hf1 : fld [a0, a1, a2, a3, a4, a5, a6, a7, a8, a9, a10, a11] 1 = a1 := rfl
  have hf2 : fld [a0, a1, a2, a3, a4, a5, a6, a7, a8, a9, a10, a11] 2 = a2 := rfl
  rw [hk, hf1, hf2] at hchk
  clear hk hf1 hf2
  have PF := fun w => msg_place a1 w
  have PT := fun w => msg_place a2 w
  generalize placeI a1 = pf at hchk PF
  generalize placeI a2 = pt at hchk PT
  have hcell : cellsI [a0, a1, a2, a3, a4, a5, a6, a7, a8, a9, a10, a11] = #[.int .i64 a0, .int .i64 a1, .int .i64 a2, .int .i64 a3, .int .i64 a4, .int .i64 a5, .int .i64 a6, .int .i64 a7, .int .i64 a8, .int .i64 a9, .int .i64 a10, .int .i64 a11] := rfl
  rw [hcell] at HP HR hneq ⊢
  clear hcell
  obtain ⟨g, hg⟩ : ∃ g, w.heap.size = g := ⟨_, rfl⟩
  obtain ⟨W, hW⟩ : ∃ W, w.alloc (.cells #[.int .i64 a0, .int .i64 a1, .int .i64 a2, .int .i64 a3, .int .i64 a4, .int .i64 a5, .int .i64 a6, .int .i64 a7, .int .i64 a8, .int .i64 a9, .int .i64 a10, .int .i64 a11] 25) = W := ⟨_, rfl⟩
  have HB : Hid (Blk W g #[.int .i64 a0, .int .i64 a1, .int .i64 a2, .int .i64 a3, .int .i64 a4, .int .i64 a5, .int .i64 a6, .int .i64 a7, .int .i64 a8, .int .i64 a9, .int .i64 a10, .int .i64 a11] 25) := Lib.hid (by rw [← hW, ← hg]; exact Blk.new w _ _)
  have HBL : Hid (Below g w W) := Lib.hid (by rw [← hW, ← hg]; exact (Below.refl w.heap.size w).alloc (Nat.le_refl _) _)
  have HLW : Hid (LaidM W) := Lib.hid (by rw [← hW]; exact hL.below ((Below.refl w.heap.size w).alloc (Nat.le_refl _) _))
  rw [hg]
  have HW := Lib.hid hW
  have HG := Lib.hid hg
  have HCH := Lib.hid hchk
  have HPH := Lib.hid HP
  have HRH := Lib.hid HR
  have PF := Lib.hid PF
  have PT := Lib.hid PT
  clear hW hchk HP HR hL hg
  have HN := Lib.hid hneq
  clear hneq
  go_enter Tryz.func30, Tryz.ntmps30
  go_upto_region 1 with fail
  rw [HW.out]
  try rw [HG.out]
  clear HW
  go_wp2_with fail
  refine (msg_named g a0 W (HB.out.cell rfl)).mono ?_
  rintro e w1 ⟨v, rfl, hr, hb1⟩
  obtain ⟨p1, c1, rfl⟩ := hr.len
  clear hr
  rw [ptrs_length]
  have HB1 := Lib.hid (HB.out.below hb1 HB.out.lt)
  have HBL1 : Hid (Below g w w1) := Lib.hid (HBL.out.trans (hb1.mono (by rw [← HG.out]; exact HBL.out.size)))
  have HL1 := Lib.hid (HLW.out.below hb1)
  clear hb1 HB HBL HLW
  by_cases h0 : offsM a0 = []
  · have hl0 : (offsM a0).length = 0 := by rw [h0]; rfl
    rw [hl0]
    have HC5 : Hid (CK = 5) := Lib.hid (by rw [HCH.out, if_pos h0])
    clear h0 hl0
    go_wp2_with fail
    go_ret
    exact ⟨by rw [HC5.out]; rfl, HBL1.out⟩
  · have hl0 : (((offsM a0).length : Int) == 0) = false := by
      rw [beq_eq_false_iff_ne]
      intro e
      exact h0 (List.eq_nil_of_length_eq_zero (by omega))
    generalize (offsM a0).length = len at hl0 ⊢
    have HC1 : Hid (CK = if q = false ∨ (pf, pt) ≠ waysF a0 ∨ r = false then 1 else 0) := Lib.hid (by rw [HCH.out, if_neg h0])
    have hkb := offsM_kind h0
    clear h0 HCH
    have d1 := HB1.out.cell (i := 1) rfl
    have d2 := HB1.out.cell (i := 2) rfl
    go_upto_region 3 with fail
    go_cut [3] (fun s3 wx => s3 = .pointer (some ⟨w1.heap.size, 0, none⟩) ∧ (w1.alloc (.cells #[.int .i64 pf, .int .i64 pt] 96)).drew = wx)
    case first =>
      go_region_held3 (fun w' => w'.cell? ⟨g, 1, none⟩ = some (.int .i64 a1) ∧ w'.cell? ⟨g, 2, none⟩ = some (.int .i64 a2)) (first | (go_keep; done) | exact ⟨d1, d2⟩)
        (first
          | (go_at_call 68; with_reducible refine (PF.out _).mono ?_; rintro e w' ⟨rfl, rfl⟩)
          | (go_at_call 68; with_reducible refine (PT.out _).mono ?_; rintro e w' ⟨rfl, rfl⟩))
      all_goals
        go_wp2_with fail
        go_meet
        exact ⟨rfl, rfl⟩
    case rest =>
      obtain ⟨rfl, hw3⟩ := hcut
      obtain ⟨W3, hW3⟩ : ∃ W3, (w1.alloc (.cells #[.int .i64 pf, .int .i64 pt] 96)).drew = W3 := ⟨_, rfl⟩
      rw [hW3] at hw3
      subst hw3
      obtain ⟨X, hX⟩ : ∃ X, w1.heap.size = X := ⟨_, rfl⟩
      have XN : Blk W3 X #[.int .i64 pf, .int .i64 pt] 96 := by rw [← hW3, ← hX]; exact (Blk.new w1 _ _).drew
      have MN : Blk W3 g #[.int .i64 a0, .int .i64 a1, .int .i64 a2, .int .i64 a3, .int .i64 a4, .int .i64 a5, .int .i64 a6, .int .i64 a7, .int .i64 a8, .int .i64 a9, .int .i64 a10, .int .i64 a11] 25 := by rw [← hW3]; exact (HB1.out.alloc _).drew
      have HL3 : Hid (LaidM W3) := Lib.hid (by rw [← hW3]; exact HL1.out.below (((Below.refl _ _).alloc (Nat.le_refl _) _).drew))
      have HBL3 : Hid (Below g w W3) := Lib.hid (by rw [← hW3]; exact (HBL1.out.alloc (by rw [← HG.out]; exact HBL1.out.size) _).drew)
      rw [hX]
      obtain ⟨kn, hkn⟩ : ∃ kn : Nat, a0 = (kn : Int) + 1 := ⟨(a0 - 1).toNat, by omega⟩
      have hkn8 : kn < 8 := by omega
      obtain ⟨z0, z1⟩ := HL3.out.ways kn hkn8
      have HWF : Hid (waysF a0 = waysF ((kn + 1 : Nat) : Int)) := Lib.hid (by rw [hkn]; congr 1)
      generalize hwf : waysF ((kn + 1 : Nat) : Int) = WF at HWF z0 z1
      obtain ⟨wf, wt⟩ := WF
      simp only at z0 z1
      have hkw : IntKind.i64.wrap ((kn : Int) + 1 - 1) = (kn : Int) := by rw [IntKind.wrap_i64]; omega
      have hkw2 : IntKind.i64.wrap (kn : Int) = (kn : Int) := by rw [IntKind.wrap_i64]; omega
      have hk8 : (kn : Int) < 8 := by omega
      have hk0 : (0 : Int) ≤ (kn : Int) := by omega
      have hgw := HL3.out.lt
      have d0 := MN.cell (i := 0) rfl
      rw [hkn] at d0
      have HD : Hid (∀ wx, Below W3.heap.size W3 wx → ((fun w' => w'.cell? ⟨g, 0, none⟩ = some (.int .i64 ((kn : Int) + 1)) ∧ w'.cell? ⟨g, 1, none⟩ = some (.int .i64 a1) ∧ w'.cell? ⟨g, 2, none⟩ = some (.int .i64 a2) ∧ w'.cell? ⟨g, 3, none⟩ = some (.int .i64 a3) ∧ w'.cell? ⟨g, 4, none⟩ = some (.int .i64 a4) ∧ w'.cell? ⟨g, 5, none⟩ = some (.int .i64 a5) ∧ w'.cell? ⟨g, 6, none⟩ = some (.int .i64 a6) ∧ w'.cell? ⟨g, 7, none⟩ = some (.int .i64 a7) ∧ w'.cell? ⟨g, 8, none⟩ = some (.int .i64 a8) ∧ w'.cell? ⟨g, 9, none⟩ = some (.int .i64 a9) ∧ w'.cell? ⟨g, 10, none⟩ = some (.int .i64 a10) ∧ w'.cell? ⟨g, 11, none⟩ = some (.int .i64 a11) ∧ w'.cell? ⟨X, 0, none⟩ = some (.int .i64 pf) ∧ w'.cell? ⟨X, 1, none⟩ = some (.int .i64 pt) ∧ w'.cell? ⟨1, kn * 2, none⟩ = some (.int .i64 wf) ∧ w'.cell? ⟨1, kn * 2 + 1, none⟩ = some (.int .i64 wt))) wx) := Lib.hid (fun wx hb => ⟨keepB hb d0 MN.lt, keepB hb (MN.cell (i := 1) rfl) MN.lt, keepB hb (MN.cell (i := 2) rfl) MN.lt, keepB hb (MN.cell (i := 3) rfl) MN.lt, keepB hb (MN.cell (i := 4) rfl) MN.lt, keepB hb (MN.cell (i := 5) rfl) MN.lt, keepB hb (MN.cell (i := 6) rfl) MN.lt, keepB hb (MN.cell (i := 7) rfl) MN.lt, keepB hb (MN.cell (i := 8) rfl) MN.lt, keepB hb (MN.cell (i := 9) rfl) MN.lt, keepB hb (MN.cell (i := 10) rfl) MN.lt, keepB hb (MN.cell (i := 11) rfl) MN.lt, keepB hb (XN.cell (i := 0) rfl) XN.lt, keepB hb (XN.cell (i := 1) rfl) XN.lt, keepB hb z0 hgw, keepB hb z1 hgw⟩)
      have hn2 := neq_two pf pt wf wt
      have hb2 : ∃ b : Bool, (!decide ((pf, pt) = (wf, wt))) = b ∧ ((pf, pt) ≠ (wf, wt) ↔ b = true) := ⟨_, rfl, by rw [Bool.not_eq_true', decide_eq_false_iff_not]⟩
      obtain ⟨b2, hb2, hbi⟩ := hb2
      rw [hb2] at hn2
      have hC2 : CK = if q = false ∨ b2 = true ∨ r = false then 1 else 0 := by rw [HC1.out, HWF.out]; simp only [hbi]
      have HC2 := Lib.hid hC2
      clear hC2 hb2 hbi hwf hW3 hX d0 d1 d2 z0 z1 XN MN HC1 HWF HL1 HBL1 HB1 hl0 hgw hkn8
      rw [hkn] at HPH HRH HN ⊢
      have hneq := HN.out
      clear HN hkn hkb PF PT
      cases q with
      | false =>
        simp only [Bool.not_false] at hneq
        have HC3 : Hid (CK = 1) := Lib.hid (by rw [HC2.out, if_pos (.inl rfl)])
        go_upto_region 4 with fail
        refine wp_region_held_drew (S := (fun w' => w'.cell? ⟨g, 0, none⟩ = some (.int .i64 ((kn : Int) + 1)) ∧ w'.cell? ⟨g, 1, none⟩ = some (.int .i64 a1) ∧ w'.cell? ⟨g, 2, none⟩ = some (.int .i64 a2) ∧ w'.cell? ⟨g, 3, none⟩ = some (.int .i64 a3) ∧ w'.cell? ⟨g, 4, none⟩ = some (.int .i64 a4) ∧ w'.cell? ⟨g, 5, none⟩ = some (.int .i64 a5) ∧ w'.cell? ⟨g, 6, none⟩ = some (.int .i64 a6) ∧ w'.cell? ⟨g, 7, none⟩ = some (.int .i64 a7) ∧ w'.cell? ⟨g, 8, none⟩ = some (.int .i64 a8) ∧ w'.cell? ⟨g, 9, none⟩ = some (.int .i64 a9) ∧ w'.cell? ⟨g, 10, none⟩ = some (.int .i64 a10) ∧ w'.cell? ⟨g, 11, none⟩ = some (.int .i64 a11) ∧ w'.cell? ⟨X, 0, none⟩ = some (.int .i64 pf) ∧ w'.cell? ⟨X, 1, none⟩ = some (.int .i64 pt) ∧ w'.cell? ⟨1, kn * 2, none⟩ = some (.int .i64 wf) ∧ w'.cell? ⟨1, kn * 2 + 1, none⟩ = some (.int .i64 wt))) (by kernel_rfl) (HD.out _ (Below.refl _ W3).drew) (fun hHeld => ?_)
        refine wpAnyH_take (i := 0) (oi := ({ dst := some 14, op := Op.load 25 (Operand.tmp 1), type := 25, pos := "msg.go:125", after := #[], guard := none })) (v := (.agg #[.int .i64 ((kn : Int) + 1), .int .i64 a1, .int .i64 a2, .int .i64 a3, .int .i64 a4, .int .i64 a5, .int .i64 a6, .int .i64 a7, .int .i64 a8, .int .i64 a9, .int .i64 a10, .int .i64 a11])) rfl (by kernel_rfl) (by kernel_rfl) (by kernel_rfl) (fun _ _ _ h => h) (Or.inl ⟨by rfl, ?_⟩) (by assumption) ?_
        · (intro w hSw; (try dsimp only at hSw); go_simp)
        try simp only [Act.put, List.setIfInBounds_toArray, List.set_cons_zero, List.set_cons_succ]
        refine wpAnyH_take (i := 2) (oi := ({ dst := some 16, op := Op.load 25 (Operand.tmp 1), type := 25, pos := "msg.go:125", after := #[], guard := none })) (v := (.agg #[.int .i64 ((kn : Int) + 1), .int .i64 a1, .int .i64 a2, .int .i64 a3, .int .i64 a4, .int .i64 a5, .int .i64 a6, .int .i64 a7, .int .i64 a8, .int .i64 a9, .int .i64 a10, .int .i64 a11])) rfl (by kernel_rfl) (by kernel_rfl) (by kernel_rfl) (fun _ _ _ h => h) (Or.inl ⟨by rfl, ?_⟩) (by assumption) ?_
        · (intro w hSw; (try dsimp only at hSw); go_simp)
        try simp only [Act.put, List.setIfInBounds_toArray, List.set_cons_zero, List.set_cons_succ]
        refine wpAnyH_ready (rs := [1]) (by kernel_rfl) (by simp) (AllReadyH.cons (o := ({ dst := some 15, op := Op.call { callee := Callee.value (Operand.func 69), args := #[Operand.tmp 14], argTypes := #[25] }, type := 25, pos := "msg.go:125", after := #[{ on := 0, ground := Ground.data }], guard := none })) rfl (fun K hK => ?_) AllReadyH.nil)
        go_simp
        refine (HPH.out _).mono ?_
        rintro e w4 ⟨rfl, hb4⟩
        have hb4 : Below W3.heap.size W3 w4 := ⟨hb4.os, hb4.tape, hb4.output, hb4.size, hb4.block⟩
        go_wp2_with fail
        clear hHeld
        refine hK.out _ _ (HD.out _ hb4) (fun hHeld => ?_)
        clear hK K
        try simp only [Act.put, List.setIfInBounds_toArray, List.set_cons_zero, List.set_cons_succ]
        refine wpAnyH_take (i := 3) (oi := ({ dst := some 17, op := Op.binOp BinOp.neq 25 (Operand.tmp 15) (Operand.tmp 16) 25, type := 4, pos := "msg.go:125", after := #[{ on := 1, ground := Ground.data }, { on := 2, ground := Ground.data }], guard := none })) (v := (.bool true)) rfl (by kernel_rfl) (by kernel_rfl) (by kernel_rfl) (fun _ _ _ h => h) (Or.inl ⟨by rfl, ?_⟩) (by assumption) ?_
        · (intro w hSw; (try dsimp only at hSw); go_simp)
        try simp only [Act.put, List.setIfInBounds_toArray, List.set_cons_zero, List.set_cons_succ]
        refine wpAnyH_take (i := 4) (oi := ({ dst := some 18, op := Op.move (Operand.tmp 17), type := 4, pos := "msg.go:125", after := #[{ on := 3, ground := Ground.data }, { on := 1, ground := Ground.chain }], guard := none })) (v := (.bool true)) rfl (by kernel_rfl) (by kernel_rfl) (by kernel_rfl) (fun _ _ _ h => h) (Or.inl ⟨by rfl, ?_⟩) (by assumption) ?_
        · (intro w hSw; (try dsimp only at hSw); go_simp)
        try simp only [Act.put, List.setIfInBounds_toArray, List.set_cons_zero, List.set_cons_succ]
        refine wpAnyH_take (i := 5) (oi := ({ dst := some 19, op := Op.load 96 (Operand.tmp 3), type := 96, pos := "msg.go:125", after := #[{ on := 4, ground := Ground.guard }], guard := some (4, false) })) (v := undef) rfl (by kernel_rfl) (by kernel_rfl) (by kernel_rfl) (fun _ _ _ h => h) (Or.inr ⟨by rfl, rfl⟩) (by assumption) ?_
        try simp only [Act.put, List.setIfInBounds_toArray, List.set_cons_zero, List.set_cons_succ]
        refine wpAnyH_take (i := 6) (oi := ({ dst := some 20, op := Op.fieldAddr 25 (Operand.tmp 1) 0, type := 0, pos := "msg.go:125", after := #[{ on := 4, ground := Ground.guard }], guard := some (4, false) })) (v := undef) rfl (by kernel_rfl) (by kernel_rfl) (by kernel_rfl) (fun _ _ _ h => h) (Or.inr ⟨by rfl, rfl⟩) (by assumption) ?_
        try simp only [Act.put, List.setIfInBounds_toArray, List.set_cons_zero, List.set_cons_succ]
        refine wpAnyH_take (i := 7) (oi := ({ dst := some 21, op := Op.load 3 (Operand.tmp 20), type := 3, pos := "msg.go:125", after := #[{ on := 6, ground := Ground.data }, { on := 4, ground := Ground.guard }], guard := some (4, false) })) (v := undef) rfl (by kernel_rfl) (by kernel_rfl) (by kernel_rfl) (fun _ _ _ h => h) (Or.inr ⟨by rfl, rfl⟩) (by assumption) ?_
        try simp only [Act.put, List.setIfInBounds_toArray, List.set_cons_zero, List.set_cons_succ]
        refine wpAnyH_take (i := 8) (oi := ({ dst := some 22, op := Op.binOp BinOp.sub 3 (Operand.tmp 21) (Operand.const (Value.int IntKind.i64 1)) 3, type := 3, pos := "msg.go:125", after := #[{ on := 7, ground := Ground.data }, { on := 4, ground := Ground.guard }], guard := some (4, false) })) (v := undef) rfl (by kernel_rfl) (by kernel_rfl) (by kernel_rfl) (fun _ _ _ h => h) (Or.inr ⟨by rfl, rfl⟩) (by assumption) ?_
        try simp only [Act.put, List.setIfInBounds_toArray, List.set_cons_zero, List.set_cons_succ]
        refine wpAnyH_take (i := 9) (oi := ({ dst := some 23, op := Op.indexAddr 97 (Operand.global 1) (Operand.tmp 22), type := 0, pos := "msg.go:125", after := #[{ on := 8, ground := Ground.data }, { on := 4, ground := Ground.guard }], guard := some (4, false) })) (v := undef) rfl (by kernel_rfl) (by kernel_rfl) (by kernel_rfl) (fun _ _ _ h => h) (Or.inr ⟨by rfl, rfl⟩) (by assumption) ?_
        try simp only [Act.put, List.setIfInBounds_toArray, List.set_cons_zero, List.set_cons_succ]
        refine wpAnyH_take (i := 10) (oi := ({ dst := some 24, op := Op.load 96 (Operand.tmp 23), type := 96, pos := "msg.go:125", after := #[{ on := 9, ground := Ground.data }, { on := 4, ground := Ground.guard }], guard := some (4, false) })) (v := undef) rfl (by kernel_rfl) (by kernel_rfl) (by kernel_rfl) (fun _ _ _ h => h) (Or.inr ⟨by rfl, rfl⟩) (by assumption) ?_
        try simp only [Act.put, List.setIfInBounds_toArray, List.set_cons_zero, List.set_cons_succ]
        refine wpAnyH_take (i := 11) (oi := ({ dst := some 25, op := Op.binOp BinOp.neq 96 (Operand.tmp 19) (Operand.tmp 24) 96, type := 4, pos := "msg.go:125", after := #[{ on := 5, ground := Ground.data }, { on := 10, ground := Ground.data }, { on := 4, ground := Ground.guard }], guard := some (4, false) })) (v := undef) rfl (by kernel_rfl) (by kernel_rfl) (by kernel_rfl) (fun _ _ _ h => h) (Or.inr ⟨by rfl, rfl⟩) (by assumption) ?_
        try simp only [Act.put, List.setIfInBounds_toArray, List.set_cons_zero, List.set_cons_succ]
        refine wpAnyH_take (i := 12) (oi := ({ dst := some 26, op := Op.pick (Operand.tmp 18) (Operand.const (Value.bool true)) (Operand.tmp 25), type := 4, pos := "msg.go:125", after := #[{ on := 4, ground := Ground.data }, { on := 11, ground := Ground.data }], guard := none })) (v := (.bool true)) rfl (by kernel_rfl) (by kernel_rfl) (by kernel_rfl) (fun _ _ _ h => h) (Or.inl ⟨by rfl, ?_⟩) (by assumption) ?_
        · (intro w hSw; (try dsimp only at hSw); go_simp)
        try simp only [Act.put, List.setIfInBounds_toArray, List.set_cons_zero, List.set_cons_succ]
        refine wpAnyH_take (i := 13) (oi := ({ dst := some 27, op := Op.move (Operand.tmp 26), type := 4, pos := "msg.go:125", after := #[{ on := 12, ground := Ground.data }, { on := 4, ground := Ground.chain }], guard := none })) (v := (.bool true)) rfl (by kernel_rfl) (by kernel_rfl) (by kernel_rfl) (fun _ _ _ h => h) (Or.inl ⟨by rfl, ?_⟩) (by assumption) ?_
        · (intro w hSw; (try dsimp only at hSw); go_simp)
        try simp only [Act.put, List.setIfInBounds_toArray, List.set_cons_zero, List.set_cons_succ]
        refine wpAnyH_take (i := 14) (oi := ({ dst := some 28, op := Op.load 25 (Operand.tmp 1), type := 25, pos := "msg.go:125", after := #[{ on := 13, ground := Ground.guard }], guard := some (13, false) })) (v := undef) rfl (by kernel_rfl) (by kernel_rfl) (by kernel_rfl) (fun _ _ _ h => h) (Or.inr ⟨by rfl, rfl⟩) (by assumption) ?_
        try simp only [Act.put, List.setIfInBounds_toArray, List.set_cons_zero, List.set_cons_succ]
        refine wpAnyH_take (i := 15) (oi := ({ dst := some 29, op := Op.call { callee := Callee.value (Operand.func 70), args := #[Operand.tmp 28], argTypes := #[25] }, type := 4, pos := "msg.go:125", after := #[{ on := 14, ground := Ground.data }, { on := 13, ground := Ground.chain }, { on := 13, ground := Ground.guard }], guard := some (13, false) })) (v := undef) rfl (by kernel_rfl) (by kernel_rfl) (by kernel_rfl) (fun _ _ _ h => h) (Or.inr ⟨by rfl, rfl⟩) (by assumption) ?_
        try simp only [Act.put, List.setIfInBounds_toArray, List.set_cons_zero, List.set_cons_succ]
        refine wpAnyH_take (i := 16) (oi := ({ dst := some 30, op := Op.unOp UnOp.not 4 (Operand.tmp 29), type := 4, pos := "msg.go:125", after := #[{ on := 15, ground := Ground.data }, { on := 13, ground := Ground.guard }], guard := some (13, false) })) (v := undef) rfl (by kernel_rfl) (by kernel_rfl) (by kernel_rfl) (fun _ _ _ h => h) (Or.inr ⟨by rfl, rfl⟩) (by assumption) ?_
        try simp only [Act.put, List.setIfInBounds_toArray, List.set_cons_zero, List.set_cons_succ]
        refine wpAnyH_take (i := 17) (oi := ({ dst := some 31, op := Op.pick (Operand.tmp 27) (Operand.const (Value.bool true)) (Operand.tmp 30), type := 4, pos := "msg.go:125", after := #[{ on := 13, ground := Ground.data }, { on := 16, ground := Ground.data }], guard := none })) (v := (.bool true)) rfl (by kernel_rfl) (by kernel_rfl) (by kernel_rfl) (fun _ _ _ h => h) (Or.inl ⟨by rfl, ?_⟩) (by assumption) ?_
        · (intro w hSw; (try dsimp only at hSw); go_simp)
        try simp only [Act.put, List.setIfInBounds_toArray, List.set_cons_zero, List.set_cons_succ]
        refine wpAnyH_done (by kernel_rfl) ?_ _
        clear hHeld
        have HBL4 := Lib.hid (HBL3.out.trans (hb4.mono (by rw [← HG.out]; exact HBL3.out.size)))
        clear hb4 HD
        go_wp2_with fail
        go_ret
        exact ⟨by rw [HC3.out]; rfl, HBL4.out⟩
      | true =>
        simp only [Bool.not_true] at hneq
        cases b2 with
        | true =>
          have HC3 : Hid (CK = 1) := Lib.hid (by rw [HC2.out, if_pos (.inr (.inl rfl))])
          go_upto_region 4 with fail
          refine wp_region_held_drew (S := (fun w' => w'.cell? ⟨g, 0, none⟩ = some (.int .i64 ((kn : Int) + 1)) ∧ w'.cell? ⟨g, 1, none⟩ = some (.int .i64 a1) ∧ w'.cell? ⟨g, 2, none⟩ = some (.int .i64 a2) ∧ w'.cell? ⟨g, 3, none⟩ = some (.int .i64 a3) ∧ w'.cell? ⟨g, 4, none⟩ = some (.int .i64 a4) ∧ w'.cell? ⟨g, 5, none⟩ = some (.int .i64 a5) ∧ w'.cell? ⟨g, 6, none⟩ = some (.int .i64 a6) ∧ w'.cell? ⟨g, 7, none⟩ = some (.int .i64 a7) ∧ w'.cell? ⟨g, 8, none⟩ = some (.int .i64 a8) ∧ w'.cell? ⟨g, 9, none⟩ = some (.int .i64 a9) ∧ w'.cell? ⟨g, 10, none⟩ = some (.int .i64 a10) ∧ w'.cell? ⟨g, 11, none⟩ = some (.int .i64 a11) ∧ w'.cell? ⟨X, 0, none⟩ = some (.int .i64 pf) ∧ w'.cell? ⟨X, 1, none⟩ = some (.int .i64 pt) ∧ w'.cell? ⟨1, kn * 2, none⟩ = some (.int .i64 wf) ∧ w'.cell? ⟨1, kn * 2 + 1, none⟩ = some (.int .i64 wt))) (by kernel_rfl) (HD.out _ (Below.refl _ W3).drew) (fun hHeld => ?_)
          refine wpAnyH_take (i := 0) (oi := ({ dst := some 14, op := Op.load 25 (Operand.tmp 1), type := 25, pos := "msg.go:125", after := #[], guard := none })) (v := (.agg #[.int .i64 ((kn : Int) + 1), .int .i64 a1, .int .i64 a2, .int .i64 a3, .int .i64 a4, .int .i64 a5, .int .i64 a6, .int .i64 a7, .int .i64 a8, .int .i64 a9, .int .i64 a10, .int .i64 a11])) rfl (by kernel_rfl) (by kernel_rfl) (by kernel_rfl) (fun _ _ _ h => h) (Or.inl ⟨by rfl, ?_⟩) (by assumption) ?_
          · (intro w hSw; (try dsimp only at hSw); go_simp)
          try simp only [Act.put, List.setIfInBounds_toArray, List.set_cons_zero, List.set_cons_succ]
          refine wpAnyH_take (i := 2) (oi := ({ dst := some 16, op := Op.load 25 (Operand.tmp 1), type := 25, pos := "msg.go:125", after := #[], guard := none })) (v := (.agg #[.int .i64 ((kn : Int) + 1), .int .i64 a1, .int .i64 a2, .int .i64 a3, .int .i64 a4, .int .i64 a5, .int .i64 a6, .int .i64 a7, .int .i64 a8, .int .i64 a9, .int .i64 a10, .int .i64 a11])) rfl (by kernel_rfl) (by kernel_rfl) (by kernel_rfl) (fun _ _ _ h => h) (Or.inl ⟨by rfl, ?_⟩) (by assumption) ?_
          · (intro w hSw; (try dsimp only at hSw); go_simp)
          try simp only [Act.put, List.setIfInBounds_toArray, List.set_cons_zero, List.set_cons_succ]
          refine wpAnyH_ready (rs := [1]) (by kernel_rfl) (by simp) (AllReadyH.cons (o := ({ dst := some 15, op := Op.call { callee := Callee.value (Operand.func 69), args := #[Operand.tmp 14], argTypes := #[25] }, type := 25, pos := "msg.go:125", after := #[{ on := 0, ground := Ground.data }], guard := none })) rfl (fun K hK => ?_) AllReadyH.nil)
          go_simp
          refine (HPH.out _).mono ?_
          rintro e w4 ⟨rfl, hb4⟩
          have hb4 : Below W3.heap.size W3 w4 := ⟨hb4.os, hb4.tape, hb4.output, hb4.size, hb4.block⟩
          go_wp2_with fail
          clear hHeld
          refine hK.out _ _ (HD.out _ hb4) (fun hHeld => ?_)
          clear hK K
          try simp only [Act.put, List.setIfInBounds_toArray, List.set_cons_zero, List.set_cons_succ]
          refine wpAnyH_take (i := 3) (oi := ({ dst := some 17, op := Op.binOp BinOp.neq 25 (Operand.tmp 15) (Operand.tmp 16) 25, type := 4, pos := "msg.go:125", after := #[{ on := 1, ground := Ground.data }, { on := 2, ground := Ground.data }], guard := none })) (v := (.bool false)) rfl (by kernel_rfl) (by kernel_rfl) (by kernel_rfl) (fun _ _ _ h => h) (Or.inl ⟨by rfl, ?_⟩) (by assumption) ?_
          · (intro w hSw; (try dsimp only at hSw); go_simp)
          try simp only [Act.put, List.setIfInBounds_toArray, List.set_cons_zero, List.set_cons_succ]
          refine wpAnyH_take (i := 4) (oi := ({ dst := some 18, op := Op.move (Operand.tmp 17), type := 4, pos := "msg.go:125", after := #[{ on := 3, ground := Ground.data }, { on := 1, ground := Ground.chain }], guard := none })) (v := (.bool false)) rfl (by kernel_rfl) (by kernel_rfl) (by kernel_rfl) (fun _ _ _ h => h) (Or.inl ⟨by rfl, ?_⟩) (by assumption) ?_
          · (intro w hSw; (try dsimp only at hSw); go_simp)
          try simp only [Act.put, List.setIfInBounds_toArray, List.set_cons_zero, List.set_cons_succ]
          refine wpAnyH_take (i := 5) (oi := ({ dst := some 19, op := Op.load 96 (Operand.tmp 3), type := 96, pos := "msg.go:125", after := #[{ on := 4, ground := Ground.guard }], guard := some (4, false) })) (v := (.agg #[.int .i64 pf, .int .i64 pt])) rfl (by kernel_rfl) (by kernel_rfl) (by kernel_rfl) (fun _ _ _ h => h) (Or.inl ⟨by rfl, ?_⟩) (by assumption) ?_
          · (intro w hSw; (try dsimp only at hSw); go_simp)
          try simp only [Act.put, List.setIfInBounds_toArray, List.set_cons_zero, List.set_cons_succ]
          refine wpAnyH_take (i := 6) (oi := ({ dst := some 20, op := Op.fieldAddr 25 (Operand.tmp 1) 0, type := 0, pos := "msg.go:125", after := #[{ on := 4, ground := Ground.guard }], guard := some (4, false) })) (v := (.pointer (some ⟨g, 0, none⟩))) rfl (by kernel_rfl) (by kernel_rfl) (by kernel_rfl) (fun _ _ _ h => h) (Or.inl ⟨by rfl, ?_⟩) (by assumption) ?_
          · (intro w hSw; (try dsimp only at hSw); go_simp)
          try simp only [Act.put, List.setIfInBounds_toArray, List.set_cons_zero, List.set_cons_succ]
          refine wpAnyH_take (i := 7) (oi := ({ dst := some 21, op := Op.load 3 (Operand.tmp 20), type := 3, pos := "msg.go:125", after := #[{ on := 6, ground := Ground.data }, { on := 4, ground := Ground.guard }], guard := some (4, false) })) (v := (.int .i64 ((kn : Int) + 1))) rfl (by kernel_rfl) (by kernel_rfl) (by kernel_rfl) (fun _ _ _ h => h) (Or.inl ⟨by rfl, ?_⟩) (by assumption) ?_
          · (intro w hSw; (try dsimp only at hSw); go_simp)
          try simp only [Act.put, List.setIfInBounds_toArray, List.set_cons_zero, List.set_cons_succ]
          refine wpAnyH_take (i := 8) (oi := ({ dst := some 22, op := Op.binOp BinOp.sub 3 (Operand.tmp 21) (Operand.const (Value.int IntKind.i64 1)) 3, type := 3, pos := "msg.go:125", after := #[{ on := 7, ground := Ground.data }, { on := 4, ground := Ground.guard }], guard := some (4, false) })) (v := (.int .i64 kn)) rfl (by kernel_rfl) (by kernel_rfl) (by kernel_rfl) (fun _ _ _ h => h) (Or.inl ⟨by rfl, ?_⟩) (by assumption) ?_
          · (intro w hSw; (try dsimp only at hSw); go_simp)
          try simp only [Act.put, List.setIfInBounds_toArray, List.set_cons_zero, List.set_cons_succ]
          refine wpAnyH_take (i := 9) (oi := ({ dst := some 23, op := Op.indexAddr 97 (Operand.global 1) (Operand.tmp 22), type := 0, pos := "msg.go:125", after := #[{ on := 8, ground := Ground.data }, { on := 4, ground := Ground.guard }], guard := some (4, false) })) (v := (.pointer (some ⟨1, kn * 2, none⟩))) rfl (by kernel_rfl) (by kernel_rfl) (by kernel_rfl) (fun _ _ _ h => h) (Or.inl ⟨by rfl, ?_⟩) (by assumption) ?_
          · (intro w hSw; (try dsimp only at hSw); go_simp)
          try simp only [Act.put, List.setIfInBounds_toArray, List.set_cons_zero, List.set_cons_succ]
          refine wpAnyH_take (i := 10) (oi := ({ dst := some 24, op := Op.load 96 (Operand.tmp 23), type := 96, pos := "msg.go:125", after := #[{ on := 9, ground := Ground.data }, { on := 4, ground := Ground.guard }], guard := some (4, false) })) (v := (.agg #[.int .i64 wf, .int .i64 wt])) rfl (by kernel_rfl) (by kernel_rfl) (by kernel_rfl) (fun _ _ _ h => h) (Or.inl ⟨by rfl, ?_⟩) (by assumption) ?_
          · (intro w hSw; (try dsimp only at hSw); go_simp)
          try simp only [Act.put, List.setIfInBounds_toArray, List.set_cons_zero, List.set_cons_succ]
          refine wpAnyH_take (i := 11) (oi := ({ dst := some 25, op := Op.binOp BinOp.neq 96 (Operand.tmp 19) (Operand.tmp 24) 96, type := 4, pos := "msg.go:125", after := #[{ on := 5, ground := Ground.data }, { on := 10, ground := Ground.data }, { on := 4, ground := Ground.guard }], guard := some (4, false) })) (v := (.bool true)) rfl (by kernel_rfl) (by kernel_rfl) (by kernel_rfl) (fun _ _ _ h => h) (Or.inl ⟨by rfl, ?_⟩) (by assumption) ?_
          · (intro w hSw; (try dsimp only at hSw); go_simp)
          try simp only [Act.put, List.setIfInBounds_toArray, List.set_cons_zero, List.set_cons_succ]
          refine wpAnyH_take (i := 12) (oi := ({ dst := some 26, op := Op.pick (Operand.tmp 18) (Operand.const (Value.bool true)) (Operand.tmp 25), type := 4, pos := "msg.go:125", after := #[{ on := 4, ground := Ground.data }, { on := 11, ground := Ground.data }], guard := none })) (v := (.bool true)) rfl (by kernel_rfl) (by kernel_rfl) (by kernel_rfl) (fun _ _ _ h => h) (Or.inl ⟨by rfl, ?_⟩) (by assumption) ?_
          · (intro w hSw; (try dsimp only at hSw); go_simp)
          try simp only [Act.put, List.setIfInBounds_toArray, List.set_cons_zero, List.set_cons_succ]
          refine wpAnyH_take (i := 13) (oi := ({ dst := some 27, op := Op.move (Operand.tmp 26), type := 4, pos := "msg.go:125", after := #[{ on := 12, ground := Ground.data }, { on := 4, ground := Ground.chain }], guard := none })) (v := (.bool true)) rfl (by kernel_rfl) (by kernel_rfl) (by kernel_rfl) (fun _ _ _ h => h) (Or.inl ⟨by rfl, ?_⟩) (by assumption) ?_
          · (intro w hSw; (try dsimp only at hSw); go_simp)
          try simp only [Act.put, List.setIfInBounds_toArray, List.set_cons_zero, List.set_cons_succ]
          refine wpAnyH_take (i := 14) (oi := ({ dst := some 28, op := Op.load 25 (Operand.tmp 1), type := 25, pos := "msg.go:125", after := #[{ on := 13, ground := Ground.guard }], guard := some (13, false) })) (v := undef) rfl (by kernel_rfl) (by kernel_rfl) (by kernel_rfl) (fun _ _ _ h => h) (Or.inr ⟨by rfl, rfl⟩) (by assumption) ?_
          try simp only [Act.put, List.setIfInBounds_toArray, List.set_cons_zero, List.set_cons_succ]
          refine wpAnyH_take (i := 15) (oi := ({ dst := some 29, op := Op.call { callee := Callee.value (Operand.func 70), args := #[Operand.tmp 28], argTypes := #[25] }, type := 4, pos := "msg.go:125", after := #[{ on := 14, ground := Ground.data }, { on := 13, ground := Ground.chain }, { on := 13, ground := Ground.guard }], guard := some (13, false) })) (v := undef) rfl (by kernel_rfl) (by kernel_rfl) (by kernel_rfl) (fun _ _ _ h => h) (Or.inr ⟨by rfl, rfl⟩) (by assumption) ?_
          try simp only [Act.put, List.setIfInBounds_toArray, List.set_cons_zero, List.set_cons_succ]
          refine wpAnyH_take (i := 16) (oi := ({ dst := some 30, op := Op.unOp UnOp.not 4 (Operand.tmp 29), type := 4, pos := "msg.go:125", after := #[{ on := 15, ground := Ground.data }, { on := 13, ground := Ground.guard }], guard := some (13, false) })) (v := undef) rfl (by kernel_rfl) (by kernel_rfl) (by kernel_rfl) (fun _ _ _ h => h) (Or.inr ⟨by rfl, rfl⟩) (by assumption) ?_
          try simp only [Act.put, List.setIfInBounds_toArray, List.set_cons_zero, List.set_cons_succ]
          refine wpAnyH_take (i := 17) (oi := ({ dst := some 31, op := Op.pick (Operand.tmp 27) (Operand.const (Value.bool true)) (Operand.tmp 30), type := 4, pos := "msg.go:125", after := #[{ on := 13, ground := Ground.data }, { on := 16, ground := Ground.data }], guard := none })) (v := (.bool true)) rfl (by kernel_rfl) (by kernel_rfl) (by kernel_rfl) (fun _ _ _ h => h) (Or.inl ⟨by rfl, ?_⟩) (by assumption) ?_
          · (intro w hSw; (try dsimp only at hSw); go_simp)
          try simp only [Act.put, List.setIfInBounds_toArray, List.set_cons_zero, List.set_cons_succ]
          refine wpAnyH_done (by kernel_rfl) ?_ _
          clear hHeld
          have HBL4 := Lib.hid (HBL3.out.trans (hb4.mono (by rw [← HG.out]; exact HBL3.out.size)))
          clear hb4 HD
          go_wp2_with fail
          go_ret
          exact ⟨by rw [HC3.out]; rfl, HBL4.out⟩
        | false =>
          cases r with
          | false =>
            have HC3 : Hid (CK = 1) := Lib.hid (by rw [HC2.out, if_pos (.inr (.inr rfl))])
            go_upto_region 4 with fail
            refine wp_region_held_drew (S := (fun w' => w'.cell? ⟨g, 0, none⟩ = some (.int .i64 ((kn : Int) + 1)) ∧ w'.cell? ⟨g, 1, none⟩ = some (.int .i64 a1) ∧ w'.cell? ⟨g, 2, none⟩ = some (.int .i64 a2) ∧ w'.cell? ⟨g, 3, none⟩ = some (.int .i64 a3) ∧ w'.cell? ⟨g, 4, none⟩ = some (.int .i64 a4) ∧ w'.cell? ⟨g, 5, none⟩ = some (.int .i64 a5) ∧ w'.cell? ⟨g, 6, none⟩ = some (.int .i64 a6) ∧ w'.cell? ⟨g, 7, none⟩ = some (.int .i64 a7) ∧ w'.cell? ⟨g, 8, none⟩ = some (.int .i64 a8) ∧ w'.cell? ⟨g, 9, none⟩ = some (.int .i64 a9) ∧ w'.cell? ⟨g, 10, none⟩ = some (.int .i64 a10) ∧ w'.cell? ⟨g, 11, none⟩ = some (.int .i64 a11) ∧ w'.cell? ⟨X, 0, none⟩ = some (.int .i64 pf) ∧ w'.cell? ⟨X, 1, none⟩ = some (.int .i64 pt) ∧ w'.cell? ⟨1, kn * 2, none⟩ = some (.int .i64 wf) ∧ w'.cell? ⟨1, kn * 2 + 1, none⟩ = some (.int .i64 wt))) (by kernel_rfl) (HD.out _ (Below.refl _ W3).drew) (fun hHeld => ?_)
            refine wpAnyH_take (i := 0) (oi := ({ dst := some 14, op := Op.load 25 (Operand.tmp 1), type := 25, pos := "msg.go:125", after := #[], guard := none })) (v := (.agg #[.int .i64 ((kn : Int) + 1), .int .i64 a1, .int .i64 a2, .int .i64 a3, .int .i64 a4, .int .i64 a5, .int .i64 a6, .int .i64 a7, .int .i64 a8, .int .i64 a9, .int .i64 a10, .int .i64 a11])) rfl (by kernel_rfl) (by kernel_rfl) (by kernel_rfl) (fun _ _ _ h => h) (Or.inl ⟨by rfl, ?_⟩) (by assumption) ?_
            · (intro w hSw; (try dsimp only at hSw); go_simp)
            try simp only [Act.put, List.setIfInBounds_toArray, List.set_cons_zero, List.set_cons_succ]
            refine wpAnyH_take (i := 2) (oi := ({ dst := some 16, op := Op.load 25 (Operand.tmp 1), type := 25, pos := "msg.go:125", after := #[], guard := none })) (v := (.agg #[.int .i64 ((kn : Int) + 1), .int .i64 a1, .int .i64 a2, .int .i64 a3, .int .i64 a4, .int .i64 a5, .int .i64 a6, .int .i64 a7, .int .i64 a8, .int .i64 a9, .int .i64 a10, .int .i64 a11])) rfl (by kernel_rfl) (by kernel_rfl) (by kernel_rfl) (fun _ _ _ h => h) (Or.inl ⟨by rfl, ?_⟩) (by assumption) ?_
            · (intro w hSw; (try dsimp only at hSw); go_simp)
            try simp only [Act.put, List.setIfInBounds_toArray, List.set_cons_zero, List.set_cons_succ]
            refine wpAnyH_ready (rs := [1]) (by kernel_rfl) (by simp) (AllReadyH.cons (o := ({ dst := some 15, op := Op.call { callee := Callee.value (Operand.func 69), args := #[Operand.tmp 14], argTypes := #[25] }, type := 25, pos := "msg.go:125", after := #[{ on := 0, ground := Ground.data }], guard := none })) rfl (fun K hK => ?_) AllReadyH.nil)
            go_simp
            refine (HPH.out _).mono ?_
            rintro e w4 ⟨rfl, hb4⟩
            have hb4 : Below W3.heap.size W3 w4 := ⟨hb4.os, hb4.tape, hb4.output, hb4.size, hb4.block⟩
            go_wp2_with fail
            clear hHeld
            refine hK.out _ _ (HD.out _ hb4) (fun hHeld => ?_)
            clear hK K
            try simp only [Act.put, List.setIfInBounds_toArray, List.set_cons_zero, List.set_cons_succ]
            refine wpAnyH_take (i := 3) (oi := ({ dst := some 17, op := Op.binOp BinOp.neq 25 (Operand.tmp 15) (Operand.tmp 16) 25, type := 4, pos := "msg.go:125", after := #[{ on := 1, ground := Ground.data }, { on := 2, ground := Ground.data }], guard := none })) (v := (.bool false)) rfl (by kernel_rfl) (by kernel_rfl) (by kernel_rfl) (fun _ _ _ h => h) (Or.inl ⟨by rfl, ?_⟩) (by assumption) ?_
            · (intro w hSw; (try dsimp only at hSw); go_simp)
            try simp only [Act.put, List.setIfInBounds_toArray, List.set_cons_zero, List.set_cons_succ]
            refine wpAnyH_take (i := 4) (oi := ({ dst := some 18, op := Op.move (Operand.tmp 17), type := 4, pos := "msg.go:125", after := #[{ on := 3, ground := Ground.data }, { on := 1, ground := Ground.chain }], guard := none })) (v := (.bool false)) rfl (by kernel_rfl) (by kernel_rfl) (by kernel_rfl) (fun _ _ _ h => h) (Or.inl ⟨by rfl, ?_⟩) (by assumption) ?_
            · (intro w hSw; (try dsimp only at hSw); go_simp)
            try simp only [Act.put, List.setIfInBounds_toArray, List.set_cons_zero, List.set_cons_succ]
            refine wpAnyH_take (i := 5) (oi := ({ dst := some 19, op := Op.load 96 (Operand.tmp 3), type := 96, pos := "msg.go:125", after := #[{ on := 4, ground := Ground.guard }], guard := some (4, false) })) (v := (.agg #[.int .i64 pf, .int .i64 pt])) rfl (by kernel_rfl) (by kernel_rfl) (by kernel_rfl) (fun _ _ _ h => h) (Or.inl ⟨by rfl, ?_⟩) (by assumption) ?_
            · (intro w hSw; (try dsimp only at hSw); go_simp)
            try simp only [Act.put, List.setIfInBounds_toArray, List.set_cons_zero, List.set_cons_succ]
            refine wpAnyH_take (i := 6) (oi := ({ dst := some 20, op := Op.fieldAddr 25 (Operand.tmp 1) 0, type := 0, pos := "msg.go:125", after := #[{ on := 4, ground := Ground.guard }], guard := some (4, false) })) (v := (.pointer (some ⟨g, 0, none⟩))) rfl (by kernel_rfl) (by kernel_rfl) (by kernel_rfl) (fun _ _ _ h => h) (Or.inl ⟨by rfl, ?_⟩) (by assumption) ?_
            · (intro w hSw; (try dsimp only at hSw); go_simp)
            try simp only [Act.put, List.setIfInBounds_toArray, List.set_cons_zero, List.set_cons_succ]
            refine wpAnyH_take (i := 7) (oi := ({ dst := some 21, op := Op.load 3 (Operand.tmp 20), type := 3, pos := "msg.go:125", after := #[{ on := 6, ground := Ground.data }, { on := 4, ground := Ground.guard }], guard := some (4, false) })) (v := (.int .i64 ((kn : Int) + 1))) rfl (by kernel_rfl) (by kernel_rfl) (by kernel_rfl) (fun _ _ _ h => h) (Or.inl ⟨by rfl, ?_⟩) (by assumption) ?_
            · (intro w hSw; (try dsimp only at hSw); go_simp)
            try simp only [Act.put, List.setIfInBounds_toArray, List.set_cons_zero, List.set_cons_succ]
            refine wpAnyH_take (i := 8) (oi := ({ dst := some 22, op := Op.binOp BinOp.sub 3 (Operand.tmp 21) (Operand.const (Value.int IntKind.i64 1)) 3, type := 3, pos := "msg.go:125", after := #[{ on := 7, ground := Ground.data }, { on := 4, ground := Ground.guard }], guard := some (4, false) })) (v := (.int .i64 kn)) rfl (by kernel_rfl) (by kernel_rfl) (by kernel_rfl) (fun _ _ _ h => h) (Or.inl ⟨by rfl, ?_⟩) (by assumption) ?_
            · (intro w hSw; (try dsimp only at hSw); go_simp)
            try simp only [Act.put, List.setIfInBounds_toArray, List.set_cons_zero, List.set_cons_succ]
            refine wpAnyH_take (i := 9) (oi := ({ dst := some 23, op := Op.indexAddr 97 (Operand.global 1) (Operand.tmp 22), type := 0, pos := "msg.go:125", after := #[{ on := 8, ground := Ground.data }, { on := 4, ground := Ground.guard }], guard := some (4, false) })) (v := (.pointer (some ⟨1, kn * 2, none⟩))) rfl (by kernel_rfl) (by kernel_rfl) (by kernel_rfl) (fun _ _ _ h => h) (Or.inl ⟨by rfl, ?_⟩) (by assumption) ?_
            · (intro w hSw; (try dsimp only at hSw); go_simp)
            try simp only [Act.put, List.setIfInBounds_toArray, List.set_cons_zero, List.set_cons_succ]
            refine wpAnyH_take (i := 10) (oi := ({ dst := some 24, op := Op.load 96 (Operand.tmp 23), type := 96, pos := "msg.go:125", after := #[{ on := 9, ground := Ground.data }, { on := 4, ground := Ground.guard }], guard := some (4, false) })) (v := (.agg #[.int .i64 wf, .int .i64 wt])) rfl (by kernel_rfl) (by kernel_rfl) (by kernel_rfl) (fun _ _ _ h => h) (Or.inl ⟨by rfl, ?_⟩) (by assumption) ?_
            · (intro w hSw; (try dsimp only at hSw); go_simp)
            try simp only [Act.put, List.setIfInBounds_toArray, List.set_cons_zero, List.set_cons_succ]
            refine wpAnyH_take (i := 11) (oi := ({ dst := some 25, op := Op.binOp BinOp.neq 96 (Operand.tmp 19) (Operand.tmp 24) 96, type := 4, pos := "msg.go:125", after := #[{ on := 5, ground := Ground.data }, { on := 10, ground := Ground.data }, { on := 4, ground := Ground.guard }], guard := some (4, false) })) (v := (.bool false)) rfl (by kernel_rfl) (by kernel_rfl) (by kernel_rfl) (fun _ _ _ h => h) (Or.inl ⟨by rfl, ?_⟩) (by assumption) ?_
            · (intro w hSw; (try dsimp only at hSw); go_simp)
            try simp only [Act.put, List.setIfInBounds_toArray, List.set_cons_zero, List.set_cons_succ]
            refine wpAnyH_take (i := 12) (oi := ({ dst := some 26, op := Op.pick (Operand.tmp 18) (Operand.const (Value.bool true)) (Operand.tmp 25), type := 4, pos := "msg.go:125", after := #[{ on := 4, ground := Ground.data }, { on := 11, ground := Ground.data }], guard := none })) (v := (.bool false)) rfl (by kernel_rfl) (by kernel_rfl) (by kernel_rfl) (fun _ _ _ h => h) (Or.inl ⟨by rfl, ?_⟩) (by assumption) ?_
            · (intro w hSw; (try dsimp only at hSw); go_simp)
            try simp only [Act.put, List.setIfInBounds_toArray, List.set_cons_zero, List.set_cons_succ]
            refine wpAnyH_take (i := 13) (oi := ({ dst := some 27, op := Op.move (Operand.tmp 26), type := 4, pos := "msg.go:125", after := #[{ on := 12, ground := Ground.data }, { on := 4, ground := Ground.chain }], guard := none })) (v := (.bool false)) rfl (by kernel_rfl) (by kernel_rfl) (by kernel_rfl) (fun _ _ _ h => h) (Or.inl ⟨by rfl, ?_⟩) (by assumption) ?_
            · (intro w hSw; (try dsimp only at hSw); go_simp)
            try simp only [Act.put, List.setIfInBounds_toArray, List.set_cons_zero, List.set_cons_succ]
            refine wpAnyH_take (i := 14) (oi := ({ dst := some 28, op := Op.load 25 (Operand.tmp 1), type := 25, pos := "msg.go:125", after := #[{ on := 13, ground := Ground.guard }], guard := some (13, false) })) (v := (.agg #[.int .i64 ((kn : Int) + 1), .int .i64 a1, .int .i64 a2, .int .i64 a3, .int .i64 a4, .int .i64 a5, .int .i64 a6, .int .i64 a7, .int .i64 a8, .int .i64 a9, .int .i64 a10, .int .i64 a11])) rfl (by kernel_rfl) (by kernel_rfl) (by kernel_rfl) (fun _ _ _ h => h) (Or.inl ⟨by rfl, ?_⟩) (by assumption) ?_
            · (intro w hSw; (try dsimp only at hSw); go_simp)
            try simp only [Act.put, List.setIfInBounds_toArray, List.set_cons_zero, List.set_cons_succ]
            refine wpAnyH_ready (rs := [15]) (by kernel_rfl) (by simp) (AllReadyH.cons (o := ({ dst := some 29, op := Op.call { callee := Callee.value (Operand.func 70), args := #[Operand.tmp 28], argTypes := #[25] }, type := 4, pos := "msg.go:125", after := #[{ on := 14, ground := Ground.data }, { on := 13, ground := Ground.chain }, { on := 13, ground := Ground.guard }], guard := some (13, false) })) rfl (fun K hK => ?_) AllReadyH.nil)
            go_simp
            refine (HRH.out _).mono ?_
            rintro e w5 ⟨rfl, hb5⟩
            have hb5 : Below w4.heap.size w4 w5 := ⟨hb5.os, hb5.tape, hb5.output, hb5.size, hb5.block⟩
            go_wp2_with fail
            clear hHeld
            refine hK.out _ _ (HD.out _ (hb4.trans (hb5.mono hb4.size))) (fun hHeld => ?_)
            clear hK K
            try simp only [Act.put, List.setIfInBounds_toArray, List.set_cons_zero, List.set_cons_succ]
            refine wpAnyH_take (i := 16) (oi := ({ dst := some 30, op := Op.unOp UnOp.not 4 (Operand.tmp 29), type := 4, pos := "msg.go:125", after := #[{ on := 15, ground := Ground.data }, { on := 13, ground := Ground.guard }], guard := some (13, false) })) (v := (.bool true)) rfl (by kernel_rfl) (by kernel_rfl) (by kernel_rfl) (fun _ _ _ h => h) (Or.inl ⟨by rfl, ?_⟩) (by assumption) ?_
            · (intro w hSw; (try dsimp only at hSw); go_simp)
            try simp only [Act.put, List.setIfInBounds_toArray, List.set_cons_zero, List.set_cons_succ]
            refine wpAnyH_take (i := 17) (oi := ({ dst := some 31, op := Op.pick (Operand.tmp 27) (Operand.const (Value.bool true)) (Operand.tmp 30), type := 4, pos := "msg.go:125", after := #[{ on := 13, ground := Ground.data }, { on := 16, ground := Ground.data }], guard := none })) (v := (.bool true)) rfl (by kernel_rfl) (by kernel_rfl) (by kernel_rfl) (fun _ _ _ h => h) (Or.inl ⟨by rfl, ?_⟩) (by assumption) ?_
            · (intro w hSw; (try dsimp only at hSw); go_simp)
            try simp only [Act.put, List.setIfInBounds_toArray, List.set_cons_zero, List.set_cons_succ]
            refine wpAnyH_done (by kernel_rfl) ?_ _
            clear hHeld
            have HBL5 := Lib.hid (HBL3.out.trans ((hb4.trans (hb5.mono hb4.size)).mono (by rw [← HG.out]; exact HBL3.out.size)))
            clear hb4 hb5 HD
            go_wp2_with fail
            go_ret
            exact ⟨by rw [HC3.out]; rfl, HBL5.out⟩
          | true =>
            have HC3 : Hid (CK = 0) := Lib.hid (by rw [HC2.out]; simp)
            go_upto_region 4 with fail
            refine wp_region_held_drew (S := (fun w' => w'.cell? ⟨g, 0, none⟩ = some (.int .i64 ((kn : Int) + 1)) ∧ w'.cell? ⟨g, 1, none⟩ = some (.int .i64 a1) ∧ w'.cell? ⟨g, 2, none⟩ = some (.int .i64 a2) ∧ w'.cell? ⟨g, 3, none⟩ = some (.int .i64 a3) ∧ w'.cell? ⟨g, 4, none⟩ = some (.int .i64 a4) ∧ w'.cell? ⟨g, 5, none⟩ = some (.int .i64 a5) ∧ w'.cell? ⟨g, 6, none⟩ = some (.int .i64 a6) ∧ w'.cell? ⟨g, 7, none⟩ = some (.int .i64 a7) ∧ w'.cell? ⟨g, 8, none⟩ = some (.int .i64 a8) ∧ w'.cell? ⟨g, 9, none⟩ = some (.int .i64 a9) ∧ w'.cell? ⟨g, 10, none⟩ = some (.int .i64 a10) ∧ w'.cell? ⟨g, 11, none⟩ = some (.int .i64 a11) ∧ w'.cell? ⟨X, 0, none⟩ = some (.int .i64 pf) ∧ w'.cell? ⟨X, 1, none⟩ = some (.int .i64 pt) ∧ w'.cell? ⟨1, kn * 2, none⟩ = some (.int .i64 wf) ∧ w'.cell? ⟨1, kn * 2 + 1, none⟩ = some (.int .i64 wt))) (by kernel_rfl) (HD.out _ (Below.refl _ W3).drew) (fun hHeld => ?_)
            refine wpAnyH_take (i := 0) (oi := ({ dst := some 14, op := Op.load 25 (Operand.tmp 1), type := 25, pos := "msg.go:125", after := #[], guard := none })) (v := (.agg #[.int .i64 ((kn : Int) + 1), .int .i64 a1, .int .i64 a2, .int .i64 a3, .int .i64 a4, .int .i64 a5, .int .i64 a6, .int .i64 a7, .int .i64 a8, .int .i64 a9, .int .i64 a10, .int .i64 a11])) rfl (by kernel_rfl) (by kernel_rfl) (by kernel_rfl) (fun _ _ _ h => h) (Or.inl ⟨by rfl, ?_⟩) (by assumption) ?_
            · (intro w hSw; (try dsimp only at hSw); go_simp)
            try simp only [Act.put, List.setIfInBounds_toArray, List.set_cons_zero, List.set_cons_succ]
            refine wpAnyH_take (i := 2) (oi := ({ dst := some 16, op := Op.load 25 (Operand.tmp 1), type := 25, pos := "msg.go:125", after := #[], guard := none })) (v := (.agg #[.int .i64 ((kn : Int) + 1), .int .i64 a1, .int .i64 a2, .int .i64 a3, .int .i64 a4, .int .i64 a5, .int .i64 a6, .int .i64 a7, .int .i64 a8, .int .i64 a9, .int .i64 a10, .int .i64 a11])) rfl (by kernel_rfl) (by kernel_rfl) (by kernel_rfl) (fun _ _ _ h => h) (Or.inl ⟨by rfl, ?_⟩) (by assumption) ?_
            · (intro w hSw; (try dsimp only at hSw); go_simp)
            try simp only [Act.put, List.setIfInBounds_toArray, List.set_cons_zero, List.set_cons_succ]
            refine wpAnyH_ready (rs := [1]) (by kernel_rfl) (by simp) (AllReadyH.cons (o := ({ dst := some 15, op := Op.call { callee := Callee.value (Operand.func 69), args := #[Operand.tmp 14], argTypes := #[25] }, type := 25, pos := "msg.go:125", after := #[{ on := 0, ground := Ground.data }], guard := none })) rfl (fun K hK => ?_) AllReadyH.nil)
            go_simp
            refine (HPH.out _).mono ?_
            rintro e w4 ⟨rfl, hb4⟩
            have hb4 : Below W3.heap.size W3 w4 := ⟨hb4.os, hb4.tape, hb4.output, hb4.size, hb4.block⟩
            go_wp2_with fail
            clear hHeld
            refine hK.out _ _ (HD.out _ hb4) (fun hHeld => ?_)
            clear hK K
            try simp only [Act.put, List.setIfInBounds_toArray, List.set_cons_zero, List.set_cons_succ]
            refine wpAnyH_take (i := 3) (oi := ({ dst := some 17, op := Op.binOp BinOp.neq 25 (Operand.tmp 15) (Operand.tmp 16) 25, type := 4, pos := "msg.go:125", after := #[{ on := 1, ground := Ground.data }, { on := 2, ground := Ground.data }], guard := none })) (v := (.bool false)) rfl (by kernel_rfl) (by kernel_rfl) (by kernel_rfl) (fun _ _ _ h => h) (Or.inl ⟨by rfl, ?_⟩) (by assumption) ?_
            · (intro w hSw; (try dsimp only at hSw); go_simp)
            try simp only [Act.put, List.setIfInBounds_toArray, List.set_cons_zero, List.set_cons_succ]
            refine wpAnyH_take (i := 4) (oi := ({ dst := some 18, op := Op.move (Operand.tmp 17), type := 4, pos := "msg.go:125", after := #[{ on := 3, ground := Ground.data }, { on := 1, ground := Ground.chain }], guard := none })) (v := (.bool false)) rfl (by kernel_rfl) (by kernel_rfl) (by kernel_rfl) (fun _ _ _ h => h) (Or.inl ⟨by rfl, ?_⟩) (by assumption) ?_
            · (intro w hSw; (try dsimp only at hSw); go_simp)
            try simp only [Act.put, List.setIfInBounds_toArray, List.set_cons_zero, List.set_cons_succ]
            refine wpAnyH_take (i := 5) (oi := ({ dst := some 19, op := Op.load 96 (Operand.tmp 3), type := 96, pos := "msg.go:125", after := #[{ on := 4, ground := Ground.guard }], guard := some (4, false) })) (v := (.agg #[.int .i64 pf, .int .i64 pt])) rfl (by kernel_rfl) (by kernel_rfl) (by kernel_rfl) (fun _ _ _ h => h) (Or.inl ⟨by rfl, ?_⟩) (by assumption) ?_
            · (intro w hSw; (try dsimp only at hSw); go_simp)
            try simp only [Act.put, List.setIfInBounds_toArray, List.set_cons_zero, List.set_cons_succ]
            refine wpAnyH_take (i := 6) (oi := ({ dst := some 20, op := Op.fieldAddr 25 (Operand.tmp 1) 0, type := 0, pos := "msg.go:125", after := #[{ on := 4, ground := Ground.guard }], guard := some (4, false) })) (v := (.pointer (some ⟨g, 0, none⟩))) rfl (by kernel_rfl) (by kernel_rfl) (by kernel_rfl) (fun _ _ _ h => h) (Or.inl ⟨by rfl, ?_⟩) (by assumption) ?_
            · (intro w hSw; (try dsimp only at hSw); go_simp)
            try simp only [Act.put, List.setIfInBounds_toArray, List.set_cons_zero, List.set_cons_succ]
            refine wpAnyH_take (i := 7) (oi := ({ dst := some 21, op := Op.load 3 (Operand.tmp 20), type := 3, pos := "msg.go:125", after := #[{ on := 6, ground := Ground.data }, { on := 4, ground := Ground.guard }], guard := some (4, false) })) (v := (.int .i64 ((kn : Int) + 1))) rfl (by kernel_rfl) (by kernel_rfl) (by kernel_rfl) (fun _ _ _ h => h) (Or.inl ⟨by rfl, ?_⟩) (by assumption) ?_
            · (intro w hSw; (try dsimp only at hSw); go_simp)
            try simp only [Act.put, List.setIfInBounds_toArray, List.set_cons_zero, List.set_cons_succ]
            refine wpAnyH_take (i := 8) (oi := ({ dst := some 22, op := Op.binOp BinOp.sub 3 (Operand.tmp 21) (Operand.const (Value.int IntKind.i64 1)) 3, type := 3, pos := "msg.go:125", after := #[{ on := 7, ground := Ground.data }, { on := 4, ground := Ground.guard }], guard := some (4, false) })) (v := (.int .i64 kn)) rfl (by kernel_rfl) (by kernel_rfl) (by kernel_rfl) (fun _ _ _ h => h) (Or.inl ⟨by rfl, ?_⟩) (by assumption) ?_
            · (intro w hSw; (try dsimp only at hSw); go_simp)
            try simp only [Act.put, List.setIfInBounds_toArray, List.set_cons_zero, List.set_cons_succ]
            refine wpAnyH_take (i := 9) (oi := ({ dst := some 23, op := Op.indexAddr 97 (Operand.global 1) (Operand.tmp 22), type := 0, pos := "msg.go:125", after := #[{ on := 8, ground := Ground.data }, { on := 4, ground := Ground.guard }], guard := some (4, false) })) (v := (.pointer (some ⟨1, kn * 2, none⟩))) rfl (by kernel_rfl) (by kernel_rfl) (by kernel_rfl) (fun _ _ _ h => h) (Or.inl ⟨by rfl, ?_⟩) (by assumption) ?_
            · (intro w hSw; (try dsimp only at hSw); go_simp)
            try simp only [Act.put, List.setIfInBounds_toArray, List.set_cons_zero, List.set_cons_succ]
            refine wpAnyH_take (i := 10) (oi := ({ dst := some 24, op := Op.load 96 (Operand.tmp 23), type := 96, pos := "msg.go:125", after := #[{ on := 9, ground := Ground.data }, { on := 4, ground := Ground.guard }], guard := some (4, false) })) (v := (.agg #[.int .i64 wf, .int .i64 wt])) rfl (by kernel_rfl) (by kernel_rfl) (by kernel_rfl) (fun _ _ _ h => h) (Or.inl ⟨by rfl, ?_⟩) (by assumption) ?_
            · (intro w hSw; (try dsimp only at hSw); go_simp)
            try simp only [Act.put, List.setIfInBounds_toArray, List.set_cons_zero, List.set_cons_succ]
            refine wpAnyH_take (i := 11) (oi := ({ dst := some 25, op := Op.binOp BinOp.neq 96 (Operand.tmp 19) (Operand.tmp 24) 96, type := 4, pos := "msg.go:125", after := #[{ on := 5, ground := Ground.data }, { on := 10, ground := Ground.data }, { on := 4, ground := Ground.guard }], guard := some (4, false) })) (v := (.bool false)) rfl (by kernel_rfl) (by kernel_rfl) (by kernel_rfl) (fun _ _ _ h => h) (Or.inl ⟨by rfl, ?_⟩) (by assumption) ?_
            · (intro w hSw; (try dsimp only at hSw); go_simp)
            try simp only [Act.put, List.setIfInBounds_toArray, List.set_cons_zero, List.set_cons_succ]
            refine wpAnyH_take (i := 12) (oi := ({ dst := some 26, op := Op.pick (Operand.tmp 18) (Operand.const (Value.bool true)) (Operand.tmp 25), type := 4, pos := "msg.go:125", after := #[{ on := 4, ground := Ground.data }, { on := 11, ground := Ground.data }], guard := none })) (v := (.bool false)) rfl (by kernel_rfl) (by kernel_rfl) (by kernel_rfl) (fun _ _ _ h => h) (Or.inl ⟨by rfl, ?_⟩) (by assumption) ?_
            · (intro w hSw; (try dsimp only at hSw); go_simp)
            try simp only [Act.put, List.setIfInBounds_toArray, List.set_cons_zero, List.set_cons_succ]
            refine wpAnyH_take (i := 13) (oi := ({ dst := some 27, op := Op.move (Operand.tmp 26), type := 4, pos := "msg.go:125", after := #[{ on := 12, ground := Ground.data }, { on := 4, ground := Ground.chain }], guard := none })) (v := (.bool false)) rfl (by kernel_rfl) (by kernel_rfl) (by kernel_rfl) (fun _ _ _ h => h) (Or.inl ⟨by rfl, ?_⟩) (by assumption) ?_
            · (intro w hSw; (try dsimp only at hSw); go_simp)
            try simp only [Act.put, List.setIfInBounds_toArray, List.set_cons_zero, List.set_cons_succ]
            refine wpAnyH_take (i := 14) (oi := ({ dst := some 28, op := Op.load 25 (Operand.tmp 1), type := 25, pos := "msg.go:125", after := #[{ on := 13, ground := Ground.guard }], guard := some (13, false) })) (v := (.agg #[.int .i64 ((kn : Int) + 1), .int .i64 a1, .int .i64 a2, .int .i64 a3, .int .i64 a4, .int .i64 a5, .int .i64 a6, .int .i64 a7, .int .i64 a8, .int .i64 a9, .int .i64 a10, .int .i64 a11])) rfl (by kernel_rfl) (by kernel_rfl) (by kernel_rfl) (fun _ _ _ h => h) (Or.inl ⟨by rfl, ?_⟩) (by assumption) ?_
            · (intro w hSw; (try dsimp only at hSw); go_simp)
            try simp only [Act.put, List.setIfInBounds_toArray, List.set_cons_zero, List.set_cons_succ]
            refine wpAnyH_ready (rs := [15]) (by kernel_rfl) (by simp) (AllReadyH.cons (o := ({ dst := some 29, op := Op.call { callee := Callee.value (Operand.func 70), args := #[Operand.tmp 28], argTypes := #[25] }, type := 4, pos := "msg.go:125", after := #[{ on := 14, ground := Ground.data }, { on := 13, ground := Ground.chain }, { on := 13, ground := Ground.guard }], guard := some (13, false) })) rfl (fun K hK => ?_) AllReadyH.nil)
            go_simp
            refine (HRH.out _).mono ?_
            rintro e w5 ⟨rfl, hb5⟩
            have hb5 : Below w4.heap.size w4 w5 := ⟨hb5.os, hb5.tape, hb5.output, hb5.size, hb5.block⟩
            go_wp2_with fail
            clear hHeld
            refine hK.out _ _ (HD.out _ (hb4.trans (hb5.mono hb4.size))) (fun hHeld => ?_)
            clear hK K
            try simp only [Act.put, List.setIfInBounds_toArray, List.set_cons_zero, List.set_cons_succ]
            refine wpAnyH_take (i := 16) (oi := ({ dst := some 30, op := Op.unOp UnOp.not 4 (Operand.tmp 29), type := 4, pos := "msg.go:125", after := #[{ on := 15, ground := Ground.data }, { on := 13, ground := Ground.guard }], guard := some (13, false) })) (v := (.bool false)) rfl (by kernel_rfl) (by kernel_rfl) (by kernel_rfl) (fun _ _ _ h => h) (Or.inl ⟨by rfl, ?_⟩) (by assumption) ?_
            · (intro w hSw; (try dsimp only at hSw); go_simp)
            try simp only [Act.put, List.setIfInBounds_toArray, List.set_cons_zero, List.set_cons_succ]
            refine wpAnyH_take (i := 17) (oi := ({ dst := some 31, op := Op.pick (Operand.tmp 27) (Operand.const (Value.bool true)) (Operand.tmp 30), type := 4, pos := "msg.go:125", after := #[{ on := 13, ground := Ground.data }, { on := 16, ground := Ground.data }], guard := none })) (v := (.bool false)) rfl (by kernel_rfl) (by kernel_rfl) (by kernel_rfl) (fun _ _ _ h => h) (Or.inl ⟨by rfl, ?_⟩) (by assumption) ?_
            · (intro w hSw; (try dsimp only at hSw); go_simp)
            try simp only [Act.put, List.setIfInBounds_toArray, List.set_cons_zero, List.set_cons_succ]
            refine wpAnyH_done (by kernel_rfl) ?_ _
            clear hHeld
            have HBL5 := Lib.hid (HBL3.out.trans ((hb4.trans (hb5.mono hb4.size)).mono (by rw [← HG.out]; exact HBL3.out.size)))
            clear hb4 hb5 HD
            go_wp2_with fail
            go_ret
            exact ⟨by rw [HC3.out]; rfl, HBL5.out⟩
end Go.Proofs.YtanihdpgblkeaaaGreatDoor
