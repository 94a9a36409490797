/-
  Which events may be (reeve's layer 18): the walk.
-/
import Derived.Test.YtanihdpgblkeaaaDoorEventPure
import Derived.Test.YtanihdpgblkeaaaDoorResRight
namespace Go.Proofs.YtanihdpgblkeaaaDoor
open Go.RowKit
set_option linter.unusedVariables false
set_option linter.unusedSimpArgs false

/-- May what an event's kind names be? -/
def rightL (l : List Int) : Bool :=
  let nb := inR (fld l 1) 0 15 && inR (fld l 3) 1 2147483647
  let jb := inR (fld l 2) 1 2147483647
  let rb := resB [fld l 5, fld l 6, fld l 7]
  if fld l 0 = 1 ∨ fld l 0 = 2 then nb && rb else if fld l 0 = 3 then nb else if fld l 0 = 4 then jb && inR (fld l 4) 0 99 && rb else if fld l 0 = 5 then jb else nb && jb
/-- The error of an event; 0: none. -/
def checkL (l : List Int) : Int := if offs (fld l 0) = [] then 5 else if pureL l ≠ l ∨ rightL l = false then 1 else 0

set_option maxRecDepth 100000 in
set_option maxHeartbeats 1600000 in
theorem event_right (l : List Int) (hl : l.length = 8) (w : World) :
    Calls Tryd.prog 27 #[.agg (cellsI l)] w fun e w' => e = .returned (.bool (rightL l)) ∧ Below w.heap.size w w' := by
  obtain ⟨k, n, j, i, p, x, y, z, rfl⟩ := eight_of hl
  clear hl
  obtain ⟨W, hW⟩ : ∃ W, w.alloc (.cells #[.int .i64 k, .int .i64 n, .int .i64 j, .int .i64 i, .int .i64 p, .int .i64 x, .int .i64 y, .int .i64 z] 25) = W := ⟨_, rfl⟩
  have hB : Blk W w.heap.size #[.int .i64 k, .int .i64 n, .int .i64 j, .int .i64 i, .int .i64 p, .int .i64 x, .int .i64 y, .int .i64 z] 25 := by rw [← hW]; exact Blk.new w _ _
  have c0 := hB.cell (i := 0) rfl
  have c1 := hB.cell (i := 1) rfl
  have c2 := hB.cell (i := 2) rfl
  have c3 := hB.cell (i := 3) rfl
  have c4 := hB.cell (i := 4) rfl
  have c5 := hB.cell (i := 5) rfl
  have c6 := hB.cell (i := 6) rfl
  have c7 := hB.cell (i := 7) rfl
  have HBL : Hid (Below w.heap.size w W) := Lib.hid (by rw [← hW]; exact (Below.refl w.heap.size w).alloc (Nat.le_refl _) _)
  have HW := Lib.hid hW
  clear hB hW
  have hR : rightL [k, n, j, i, p, x, y, z] = (if k = 1 ∨ k = 2 then (inR n 0 15 && inR i 1 2147483647) && resB [x, y, z] else if k = 3 then inR n 0 15 && inR i 1 2147483647 else if k = 4 then inR j 1 2147483647 && inR p 0 99 && resB [x, y, z] else if k = 5 then inR j 1 2147483647 else (inR n 0 15 && inR i 1 2147483647) && inR j 1 2147483647) := rfl
  have h1 := num_right n 0 15
  have h2 := num_right i 1 2147483647
  have h3 := num_right j 1 2147483647
  have h4 := num_right p 0 99
  have h5 := res_right [x, y, z] rfl
  have hc : cellsI [x, y, z] = #[.int .i64 x, .int .i64 y, .int .i64 z] := rfl
  rw [hc] at h5
  clear hc
  generalize inR n 0 15 = a at h1 hR
  generalize inR i 1 2147483647 = b at h2 hR
  generalize inR j 1 2147483647 = c at h3 hR
  generalize inR p 0 99 = d at h4 hR
  generalize resB [x, y, z] = r at h5 hR
  have hcell : cellsI [k, n, j, i, p, x, y, z] = #[.int .i64 k, .int .i64 n, .int .i64 j, .int .i64 i, .int .i64 p, .int .i64 x, .int .i64 y, .int .i64 z] := rfl
  rw [hcell]
  clear hcell
  obtain ⟨R, hRR⟩ : ∃ R, rightL [k, n, j, i, p, x, y, z] = R := ⟨_, rfl⟩
  rw [hRR] at hR ⊢
  clear hRR
  have H1 := Lib.hid h1
  have H2 := Lib.hid h2
  have H3 := Lib.hid h3
  have H4 := Lib.hid h4
  have H5 := Lib.hid h5
  have HR := Lib.hid hR
  clear h1 h2 h3 h4 h5 hR
  go_enter Tryd.func27, Tryd.ntmps27
  go_upto_region 1 with fail
  rw [HW.out]
  clear HW
  go_cut [3] (fun s3 wx => s3 = .bool (a && b) ∧ W = wx)
  case first =>
    cases a <;> cases b
    all_goals
      go_wp2_with (first
        | (go_at_call 45; ((with_reducible refine (H1.out _).mono ?_); rintro e w' ⟨rfl, rfl⟩))
        | (go_at_call 45; ((with_reducible refine (H2.out _).mono ?_); rintro e w' ⟨rfl, rfl⟩)))
      go_meet
      exact ⟨rfl, rfl⟩
  case rest =>
    obtain ⟨rfl, rfl⟩ := hcut
    clear H1 H2
    obtain ⟨q, hq⟩ : ∃ q, (a && b) = q := ⟨_, rfl⟩
    rw [hq] at HR ⊢
    clear hq
    rcases kind_cases k with rfl | rfl | rfl | rfl | rfl | rfl | rfl | h
    · cases q
      all_goals
        go_wp2_with (first
          | (go_at_call 45; ((with_reducible refine (H3.out _).mono ?_); rintro e w' ⟨rfl, rfl⟩))
          | (go_at_call 45; ((with_reducible refine (H4.out _).mono ?_); rintro e w' ⟨rfl, rfl⟩))
          | (go_at_call 46; ((with_reducible refine (H5.out _).mono ?_); rintro e w' ⟨rfl, hb5⟩)))
        go_ret
        first
          | exact ⟨by rw [HR.out]; simp, HBL.out⟩
          | exact ⟨by rw [HR.out]; simp, HBL.out.trans (hb5.mono HBL.out.size)⟩
    · cases q
      all_goals
        go_wp2_with (first
          | (go_at_call 45; ((with_reducible refine (H3.out _).mono ?_); rintro e w' ⟨rfl, rfl⟩))
          | (go_at_call 45; ((with_reducible refine (H4.out _).mono ?_); rintro e w' ⟨rfl, rfl⟩))
          | (go_at_call 46; ((with_reducible refine (H5.out _).mono ?_); rintro e w' ⟨rfl, hb5⟩)))
        go_ret
        first
          | exact ⟨by rw [HR.out]; simp, HBL.out⟩
          | exact ⟨by rw [HR.out]; simp, HBL.out.trans (hb5.mono HBL.out.size)⟩
    · cases q <;> cases c
      all_goals
        go_wp2_with (first
          | (go_at_call 45; ((with_reducible refine (H3.out _).mono ?_); rintro e w' ⟨rfl, rfl⟩))
          | (go_at_call 45; ((with_reducible refine (H4.out _).mono ?_); rintro e w' ⟨rfl, rfl⟩))
          | (go_at_call 46; ((with_reducible refine (H5.out _).mono ?_); rintro e w' ⟨rfl, hb5⟩)))
        go_ret
        first
          | exact ⟨by rw [HR.out]; simp, HBL.out⟩
          | exact ⟨by rw [HR.out]; simp, HBL.out.trans (hb5.mono HBL.out.size)⟩
    · cases c <;> cases d
      all_goals
        go_wp2_with (first
          | (go_at_call 45; ((with_reducible refine (H3.out _).mono ?_); rintro e w' ⟨rfl, rfl⟩))
          | (go_at_call 45; ((with_reducible refine (H4.out _).mono ?_); rintro e w' ⟨rfl, rfl⟩))
          | (go_at_call 46; ((with_reducible refine (H5.out _).mono ?_); rintro e w' ⟨rfl, hb5⟩)))
        go_ret
        first
          | exact ⟨by rw [HR.out]; simp, HBL.out⟩
          | exact ⟨by rw [HR.out]; simp, HBL.out.trans (hb5.mono HBL.out.size)⟩
    · cases q <;> cases c
      all_goals
        go_wp2_with (first
          | (go_at_call 45; ((with_reducible refine (H3.out _).mono ?_); rintro e w' ⟨rfl, rfl⟩))
          | (go_at_call 45; ((with_reducible refine (H4.out _).mono ?_); rintro e w' ⟨rfl, rfl⟩))
          | (go_at_call 46; ((with_reducible refine (H5.out _).mono ?_); rintro e w' ⟨rfl, hb5⟩)))
        go_ret
        first
          | exact ⟨by rw [HR.out]; simp, HBL.out⟩
          | exact ⟨by rw [HR.out]; simp, HBL.out.trans (hb5.mono HBL.out.size)⟩
    · cases q <;> cases c
      all_goals
        go_wp2_with (first
          | (go_at_call 45; ((with_reducible refine (H3.out _).mono ?_); rintro e w' ⟨rfl, rfl⟩))
          | (go_at_call 45; ((with_reducible refine (H4.out _).mono ?_); rintro e w' ⟨rfl, rfl⟩))
          | (go_at_call 46; ((with_reducible refine (H5.out _).mono ?_); rintro e w' ⟨rfl, hb5⟩)))
        go_ret
        first
          | exact ⟨by rw [HR.out]; simp, HBL.out⟩
          | exact ⟨by rw [HR.out]; simp, HBL.out.trans (hb5.mono HBL.out.size)⟩
    · cases q <;> cases c
      all_goals
        go_wp2_with (first
          | (go_at_call 45; ((with_reducible refine (H3.out _).mono ?_); rintro e w' ⟨rfl, rfl⟩))
          | (go_at_call 45; ((with_reducible refine (H4.out _).mono ?_); rintro e w' ⟨rfl, rfl⟩))
          | (go_at_call 46; ((with_reducible refine (H5.out _).mono ?_); rintro e w' ⟨rfl, hb5⟩)))
        go_ret
        first
          | exact ⟨by rw [HR.out]; simp, HBL.out⟩
          | exact ⟨by rw [HR.out]; simp, HBL.out.trans (hb5.mono HBL.out.size)⟩
    · obtain ⟨n1, n2, n3, n4, n5, n6, n7⟩ := h
      have hr : R = (q && c) := by rw [HR.out, if_neg (by omega), if_neg n3, if_neg n4, if_neg n5]
      have HR := Lib.hid hr
      clear hr
      have e1 : (k == 1) = false := by rw [beq_eq_false_iff_ne]; exact n1
      have e2 : (k == 2) = false := by rw [beq_eq_false_iff_ne]; exact n2
      have e3 : (k == 3) = false := by rw [beq_eq_false_iff_ne]; exact n3
      have e4 : (k == 4) = false := by rw [beq_eq_false_iff_ne]; exact n4
      have e5 : (k == 5) = false := by rw [beq_eq_false_iff_ne]; exact n5
      clear n1 n2 n3 n4 n5 n6 n7
      cases q <;> cases c
      all_goals
        go_wp2_with (first
          | (go_at_call 45; ((with_reducible refine (H3.out _).mono ?_); rintro e w' ⟨rfl, rfl⟩))
          | (go_at_call 45; ((with_reducible refine (H4.out _).mono ?_); rintro e w' ⟨rfl, rfl⟩))
          | (go_at_call 46; ((with_reducible refine (H5.out _).mono ?_); rintro e w' ⟨rfl, hb5⟩)))
        go_ret
        first
          | exact ⟨by rw [HR.out]; simp, HBL.out⟩
          | exact ⟨by rw [HR.out]; simp, HBL.out.trans (hb5.mono HBL.out.size)⟩
end Go.Proofs.YtanihdpgblkeaaaDoor
