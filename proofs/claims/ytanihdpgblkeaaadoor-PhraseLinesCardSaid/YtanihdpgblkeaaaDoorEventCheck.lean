/-
  The error of an event (reeve's layer 18): the walk.
-/
import Derived.Test.YtanihdpgblkeaaaDoorEventRight
namespace Go.Proofs.YtanihdpgblkeaaaDoor
open Go.RowKit
set_option linter.unusedVariables false
set_option linter.unusedSimpArgs false

set_option maxRecDepth 100000 in
set_option maxHeartbeats 1600000 in
theorem event_check (l : List Int) (hl : l.length = 8) (w : World) :
    Calls Tryd.prog 11 #[.agg (cellsI l)] w fun e w' => e = .returned (.int .i64 (checkL l)) ∧ Below w.heap.size w w' := by
  have HP := event_pure l hl
  have HR := event_right l hl
  have hpl := pureL_length l
  have hneq := neq_event (pureL l) l hpl hl
  have hchk : checkL l = if offs (fld l 0) = [] then 5 else if pureL l ≠ l ∨ rightL l = false then 1 else 0 := rfl
  obtain ⟨CK, hCK⟩ : ∃ c, checkL l = c := ⟨_, rfl⟩
  rw [hCK] at hchk ⊢
  clear hCK
  generalize rightL l = r at HR hchk
  obtain ⟨PC, hPC⟩ : ∃ C, cellsI (pureL l) = C := ⟨_, rfl⟩
  rw [hPC] at HP hneq
  clear hPC
  have hpq : ∃ q : Bool, decide (pureL l = l) = q ∧ (pureL l ≠ l ↔ q = false) := ⟨_, rfl, by simp⟩
  obtain ⟨q, hq, hqi⟩ := hpq
  rw [hq] at hneq
  simp only [hqi] at hchk
  clear hq hqi hpl
  obtain ⟨k, n, j, i, p, x, y, z, rfl⟩ := eight_of hl
  clear hl
  have hk : fld [k, n, j, i, p, x, y, z] 0 = k := rfl
  rw [hk] at hchk
  clear hk
  have hcell : cellsI [k, n, j, i, p, x, y, z] = #[.int .i64 k, .int .i64 n, .int .i64 j, .int .i64 i, .int .i64 p, .int .i64 x, .int .i64 y, .int .i64 z] := rfl
  rw [hcell] at HP HR hneq ⊢
  clear hcell
  obtain ⟨W, hW⟩ : ∃ W, w.alloc (.cells #[.int .i64 k, .int .i64 n, .int .i64 j, .int .i64 i, .int .i64 p, .int .i64 x, .int .i64 y, .int .i64 z] 25) = W := ⟨_, rfl⟩
  have hB : Blk W w.heap.size #[.int .i64 k, .int .i64 n, .int .i64 j, .int .i64 i, .int .i64 p, .int .i64 x, .int .i64 y, .int .i64 z] 25 := by rw [← hW]; exact Blk.new w _ _
  have HB := Lib.hid hB
  have HBL : Hid (Below w.heap.size w W) := Lib.hid (by rw [← hW]; exact (Below.refl w.heap.size w).alloc (Nat.le_refl _) _)
  have HW := Lib.hid hW
  have HCH := Lib.hid hchk
  have HPH := Lib.hid HP
  have HRH := Lib.hid HR
  clear hB hW hchk HP HR
  have HN := Lib.hid hneq
  clear hneq
  go_enter Tryd.func11, Tryd.ntmps11
  go_upto_region 1 with fail
  rw [HW.out]
  clear HW
  go_wp2_with fail
  refine (event_named w.heap.size k W (HB.out.cell rfl)).mono ?_
  rintro e w1 ⟨v, rfl, hr, hb1⟩
  obtain ⟨p1, c1, rfl⟩ := hr.len
  clear hr
  rw [ptrs_length]
  have HB1 := Lib.hid (HB.out.below hb1 HB.out.lt)
  have HBL1 := Lib.hid (HBL.out.trans (hb1.mono HBL.out.size))
  clear hb1 HB HBL
  by_cases h0 : offs k = []
  · have hl0 : (offs k).length = 0 := by rw [h0]; rfl
    rw [hl0]
    have HC5 : Hid (CK = 5) := Lib.hid (by rw [HCH.out, if_pos h0])
    clear h0 hl0
    go_wp2_with fail
    go_ret
    exact ⟨by rw [HC5.out]; rfl, HBL1.out⟩
  · have hl0 : (((offs k).length : Int) == 0) = false := by
      rw [beq_eq_false_iff_ne]
      intro e
      exact h0 (List.eq_nil_of_length_eq_zero (by omega))
    generalize (offs k).length = len at hl0 ⊢
    have HC1 : Hid (CK = if q = false ∨ r = false then 1 else 0) := Lib.hid (by rw [HCH.out, if_neg h0])
    clear h0 HCH
    have d0 := HB1.out.cell (i := 0) rfl
    have d1 := HB1.out.cell (i := 1) rfl
    have d2 := HB1.out.cell (i := 2) rfl
    have d3 := HB1.out.cell (i := 3) rfl
    have d4 := HB1.out.cell (i := 4) rfl
    have d5 := HB1.out.cell (i := 5) rfl
    have d6 := HB1.out.cell (i := 6) rfl
    have d7 := HB1.out.cell (i := 7) rfl
    have hlt := HB1.out.lt
    go_upto_region 3 with fail
    have hneq := HN.out
    cases q
    · simp only [Bool.not_false] at hneq
      have HC0 : Hid (CK = 1) := Lib.hid (by rw [HC1.out, if_pos (.inl rfl)])
      go_cut [7] (fun s7 wx => s7 = .bool true ∧ Below w1.heap.size w1 wx)
      case first =>
        have HD := Lib.hid (fun (wx : World) (hb : Below w1.heap.size w1 wx) => show wx.cell? ⟨w.heap.size, 0, none⟩ = some (.int .i64 k) ∧ wx.cell? ⟨w.heap.size, 1, none⟩ = some (.int .i64 n) ∧ wx.cell? ⟨w.heap.size, 2, none⟩ = some (.int .i64 j) ∧ wx.cell? ⟨w.heap.size, 3, none⟩ = some (.int .i64 i) ∧ wx.cell? ⟨w.heap.size, 4, none⟩ = some (.int .i64 p) ∧ wx.cell? ⟨w.heap.size, 5, none⟩ = some (.int .i64 x) ∧ wx.cell? ⟨w.heap.size, 6, none⟩ = some (.int .i64 y) ∧ wx.cell? ⟨w.heap.size, 7, none⟩ = some (.int .i64 z) from ⟨keepB hb d0 hlt, keepB hb d1 hlt, keepB hb d2 hlt, keepB hb d3 hlt, keepB hb d4 hlt, keepB hb d5 hlt, keepB hb d6 hlt, keepB hb d7 hlt⟩)
        go_region_with ((go_at_call 26; refine (HPH.out _).mono ?_; rintro e w4 ⟨rfl, hb4⟩; have hb4 : Below w1.heap.size w1 w4 := ⟨hb4.os, hb4.tape, hb4.output, hb4.size, hb4.block⟩; obtain ⟨e0, e1, e2, e3, e4, e5, e6, e7⟩ := HD.out w4 hb4))
        all_goals
          go_wp2_with fail
          go_meet
          exact ⟨rfl, hb4⟩
      case rest =>
        obtain ⟨rfl, hb4⟩ := hcut
        have HBL4 := Lib.hid (HBL1.out.trans (hb4.mono HBL1.out.size))
        clear hb4
        go_wp2_with fail
        go_ret
        exact ⟨by rw [HC0.out]; rfl, HBL4.out⟩
    · simp only [Bool.not_true] at hneq
      have HC0 : Hid (CK = if r = false then 1 else 0) := Lib.hid (by rw [HC1.out]; simp)
      go_region_held3 (fun w' => w'.cell? ⟨w.heap.size, 0, none⟩ = some (.int .i64 k) ∧ w'.cell? ⟨w.heap.size, 1, none⟩ = some (.int .i64 n) ∧ w'.cell? ⟨w.heap.size, 2, none⟩ = some (.int .i64 j) ∧ w'.cell? ⟨w.heap.size, 3, none⟩ = some (.int .i64 i) ∧ w'.cell? ⟨w.heap.size, 4, none⟩ = some (.int .i64 p) ∧ w'.cell? ⟨w.heap.size, 5, none⟩ = some (.int .i64 x) ∧ w'.cell? ⟨w.heap.size, 6, none⟩ = some (.int .i64 y) ∧ w'.cell? ⟨w.heap.size, 7, none⟩ = some (.int .i64 z))
        (first | (go_keep; done) | (have hbx := hb4.trans (hb5.mono hb4.size); exact ⟨keepB hbx d0 hlt, keepB hbx d1 hlt, keepB hbx d2 hlt, keepB hbx d3 hlt, keepB hbx d4 hlt, keepB hbx d5 hlt, keepB hbx d6 hlt, keepB hbx d7 hlt⟩) | exact ⟨keepB hb4 d0 hlt, keepB hb4 d1 hlt, keepB hb4 d2 hlt, keepB hb4 d3 hlt, keepB hb4 d4 hlt, keepB hb4 d5 hlt, keepB hb4 d6 hlt, keepB hb4 d7 hlt⟩)
        (first
          | (go_at_call 26; refine (HPH.out _).mono ?_; rintro e w4 ⟨rfl, hb4⟩)
          | (go_at_call 27; refine (HRH.out _).mono ?_; rintro e w5 ⟨rfl, hb5⟩))
      have hb4 : Below w1.heap.size w1 w4 := ⟨hb4.os, hb4.tape, hb4.output, hb4.size, hb4.block⟩
      have HBL5 := Lib.hid (HBL1.out.trans ((hb4.trans (hb5.mono hb4.size)).mono HBL1.out.size))
      cases r
      all_goals
        go_wp2_with fail
        go_ret
        exact ⟨by rw [HC0.out]; rfl, HBL5.out⟩
end Go.Proofs.YtanihdpgblkeaaaDoor
