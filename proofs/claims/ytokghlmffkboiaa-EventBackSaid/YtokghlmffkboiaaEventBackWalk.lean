/-
  The walk of the statement EventBack.
-/
import Derived.Test.YtokghlmffkboiaaEventGetsWalk
import Derived.Test.YtokghlmffkboiaaEventPutsWalk
namespace Go.Proofs.Ytokghlmffkboiaa
open Go.RowKit
set_option linter.unusedVariables false
set_option linter.unusedSimpArgs false

theorem wf_list {l : List Int} (h : ∀ i, (Lit.int .i64 (fld l i)).wf = true) : wfI l := by
  intro a ha
  obtain ⟨i, hi, rfl⟩ := List.getElem_of_mem ha
  have := h i
  simpa [fld, hi] using this
theorem wf_fld2 {l : List Int} (h : wfI l) (i : Nat) : (Lit.int .i64 (fld l i)).wf = true := WalkArith.wf_i64 (wfI_fld h i)
theorem wf_pure (l : List Int) (h : wfI l) : wfI (pureL l) := by
  apply wf_list
  intro i
  unfold pureL
  split
  · exact wf_fld2 (wf_bare 0 (by decide) (by decide)) i
  · by_cases hi : i ∈ offs (fld l 0)
    · rw [fld_lay_in l _ (bare (fld l 0)) i hi (show i < (bare (fld l 0)).length from (offs_lt _ i hi).2)]
      exact wf_fld2 h i
    · rw [fld_lay_out _ _ _ _ hi]
      match i with
      | 0 => show (Lit.int .i64 (fld l 0)).wf = true; exact wf_fld2 h 0
      | 1 => show (Lit.int .i64 (0 : Int)).wf = true; decide
      | 2 => show (Lit.int .i64 (0 : Int)).wf = true; decide
      | 3 => show (Lit.int .i64 (0 : Int)).wf = true; decide
      | 4 => show (Lit.int .i64 (0 : Int)).wf = true; decide
      | 5 => show (Lit.int .i64 (0 : Int)).wf = true; decide
      | 6 => show (Lit.int .i64 (0 : Int)).wf = true; decide
      | 7 => show (Lit.int .i64 (0 : Int)).wf = true; decide
      | i + 8 =>
        have : fld (bare (fld l 0)) (i + 8) = 0 := by simp [fld, bare]
        rw [this]; decide
set_option maxRecDepth 100000 in
set_option maxHeartbeats 6400000 in
theorem walk_EventBack (k n j i p x y z : Int) (s : ByteArray) (w : World) (h0 : (Lit.int .i64 k).wf = true) (h1 : (Lit.int .i64 n).wf = true) (h2 : (Lit.int .i64 j).wf = true) (h3 : (Lit.int .i64 i).wf = true) (h4 : (Lit.int .i64 p).wf = true) (h5 : (Lit.int .i64 x).wf = true) (h6 : (Lit.int .i64 y).wf = true) (h7 : (Lit.int .i64 z).wf = true) (hs : s.size ≤ maxLen) :
    Calls Try.prog 5 #[.agg #[.int .i64 k, .int .i64 n, .int .i64 j, .int .i64 i, .int .i64 p, .int .i64 x, .int .i64 y, .int .i64 z], .string s] w fun e w' => e = .returned (.bool true) ∧ Below w.heap.size w w' := by
  have hu := Try.underlying25
  have hs63 : s.size ≤ 9223372036854775807 := by unfold maxLen at hs; omega
  have hwf : wfI [k, n, j, i, p, x, y, z] := wf_eight h0 h1 h2 h3 h4 h5 h6 h7
  clear h0 h1 h2 h3 h4 h5 h6 h7
  by_cases hbig : 200 < s.size
  · have hbI : (200 : Int) < (s.size : Int) := by omega
    clear hbig hwf
    go_enter Try.func5, Try.ntmps5
    go_wp2_with fail
    refine (awake18 _).mono ?_
    rintro e w1 ⟨rfl, hb⟩
    have HL := Lib.hid (((Below.refl w.heap.size w).alloc (Nat.le_refl _) (.cells #[.int .i64 k, .int .i64 n, .int .i64 j, .int .i64 i, .int .i64 p, .int .i64 x, .int .i64 y, .int .i64 z] 25)).trans (hb.mono (by simp)))
    clear hb
    go_wp2_with fail
    go_ret
    exact ⟨rfl, HL.out⟩
  have hbI : (s.size : Int) ≤ 200 := by omega
  have hU := event_pure [k, n, j, i, p, x, y, z] rfl
  have hwp := wf_pure [k, n, j, i, p, x, y, z] hwf
  have hpp := pure_pure [k, n, j, i, p, x, y, z]
  obtain ⟨P, hP⟩ : ∃ P, pureL [k, n, j, i, p, x, y, z] = P := ⟨_, rfl⟩
  have hPl : P.length = 8 := by rw [← hP]; exact pureL_length _
  rw [hP] at hU hwp hpp
  clear hP hwf hbig
  have hUP := event_pure P hPl
  rw [hpp] at hUP
  have hPut := event_put P hPl hwp
  have hneq := neq_event P P hPl hPl
  rw [decide_eq_true (rfl : P = P)] at hneq
  have hget := fun h => get_put P hPl hwp h []
  have hcut := fun h => get_cut P hPl hwp h
  obtain ⟨CP, hCP⟩ : ∃ c, checkL P = c := ⟨_, rfl⟩
  have hTS : CP = 0 → putS P = str (putB P) := by intro h; unfold putS; rw [hCP, if_pos h]
  have hTpos : 0 < (putB P).length := by unfold putB; rw [List.length_append, Oct.fixB_length]; omega
  have hTle : CP = 0 → (putB P).length ≤ 46 := by
    intro h
    have := putPart_le P (fun i => (wfI_fld hwp i).2) (offs (fld P 0)).length
    unfold putPart at this
    rw [List.take_length] at this
    exact this
  rw [hCP] at hPut hget hcut
  clear hCP hpp hwp
  generalize putB P = T at hget hcut hTS hTpos hTle
  generalize putS P = PS at hPut hTS
  obtain ⟨p0, p1, p2, p3, p4, p5, p6, p7, rfl⟩ := eight_of hPl
  have a1 : cellsI [p0, p1, p2, p3, p4, p5, p6, p7] = #[.int .i64 p0, .int .i64 p1, .int .i64 p2, .int .i64 p3, .int .i64 p4, .int .i64 p5, .int .i64 p6, .int .i64 p7] := rfl
  have a2 : cellsI [k, n, j, i, p, x, y, z] = #[.int .i64 k, .int .i64 n, .int .i64 j, .int .i64 i, .int .i64 p, .int .i64 x, .int .i64 y, .int .i64 z] := rfl
  rw [a1] at hU hUP hPut hneq
  rw [a2] at hU
  clear a1 a2 hPl
  have HU := Lib.hid hU
  have HUP := Lib.hid hUP
  have HPUT := Lib.hid hPut
  have HNEQ := Lib.hid hneq
  have HGET := Lib.hid hget
  have HCUT := Lib.hid hcut
  have HTS := Lib.hid hTS
  have HTP := Lib.hid hTpos
  have HTL := Lib.hid hTle
  have HS := Lib.hid hs
  clear hU hUP hPut hneq hget hcut hTS hTpos hTle hs
  obtain ⟨W, hW⟩ : ∃ W, w.alloc (.cells #[.int .i64 k, .int .i64 n, .int .i64 j, .int .i64 i, .int .i64 p, .int .i64 x, .int .i64 y, .int .i64 z] 25) = W := ⟨_, rfl⟩
  have HB : Hid (Blk W w.heap.size #[.int .i64 k, .int .i64 n, .int .i64 j, .int .i64 i, .int .i64 p, .int .i64 x, .int .i64 y, .int .i64 z] 25) := Lib.hid (by rw [← hW]; exact Blk.new w _ _)
  have HL : Hid (Below w.heap.size w W) := Lib.hid (by rw [← hW]; exact (Below.refl w.heap.size w).alloc (Nat.le_refl _) _)
  have HW := Lib.hid hW
  clear hW
  go_enter Try.func5, Try.ntmps5
  go_upto_region 1 with fail
  rw [HW.out]
  clear HW
  go_wp2_with (with_reducible refine ev_load rfl 25 (.tmp 2) rfl w.heap.size rfl 25 #[.int .i64 k, .int .i64 n, .int .i64 j, .int .i64 i, .int .i64 p, .int .i64 x, .int .i64 y, .int .i64 z] _ HB.out hu rfl (by kernel_rfl) ?_)
  refine (HU.out _).mono ?_
  rintro e w1 ⟨rfl, hb1⟩
  have HL1 := Lib.hid (HL.out.trans (hb1.mono HL.out.size))
  clear hb1 HB HL HU
  go_upto_region 4 with fail
  obtain ⟨W1, hW1⟩ : ∃ W1, w1.alloc (.cells #[.int .i64 p0, .int .i64 p1, .int .i64 p2, .int .i64 p3, .int .i64 p4, .int .i64 p5, .int .i64 p6, .int .i64 p7] 25) = W1 := ⟨_, rfl⟩
  have HB1 : Hid (Blk W1 w1.heap.size #[.int .i64 p0, .int .i64 p1, .int .i64 p2, .int .i64 p3, .int .i64 p4, .int .i64 p5, .int .i64 p6, .int .i64 p7] 25) := Lib.hid (by rw [← hW1]; exact Blk.new w1 _ _)
  have HL2 : Hid (Below w.heap.size w W1) := Lib.hid (by rw [← hW1]; exact HL1.out.alloc HL1.out.size _)
  rw [hW1]
  clear hW1 HL1
  have d0 := HB1.out.cell (i := 0) rfl
  have d1 := HB1.out.cell (i := 1) rfl
  have d2 := HB1.out.cell (i := 2) rfl
  have d3 := HB1.out.cell (i := 3) rfl
  have d4 := HB1.out.cell (i := 4) rfl
  have d5 := HB1.out.cell (i := 5) rfl
  have d6 := HB1.out.cell (i := 6) rfl
  have d7 := HB1.out.cell (i := 7) rfl
  have hlt := HB1.out.lt
  have hneq := HNEQ.out
  simp only [Bool.not_true] at hneq
  go_region_held3 (fun w' => w'.cell? ⟨w1.heap.size, 0, none⟩ = some (.int .i64 p0) ∧ w'.cell? ⟨w1.heap.size, 1, none⟩ = some (.int .i64 p1) ∧ w'.cell? ⟨w1.heap.size, 2, none⟩ = some (.int .i64 p2) ∧ w'.cell? ⟨w1.heap.size, 3, none⟩ = some (.int .i64 p3) ∧ w'.cell? ⟨w1.heap.size, 4, none⟩ = some (.int .i64 p4) ∧ w'.cell? ⟨w1.heap.size, 5, none⟩ = some (.int .i64 p5) ∧ w'.cell? ⟨w1.heap.size, 6, none⟩ = some (.int .i64 p6) ∧ w'.cell? ⟨w1.heap.size, 7, none⟩ = some (.int .i64 p7))
    (first | (go_keep; done) | exact ⟨keepB hb4 d0 hlt, keepB hb4 d1 hlt, keepB hb4 d2 hlt, keepB hb4 d3 hlt, keepB hb4 d4 hlt, keepB hb4 d5 hlt, keepB hb4 d6 hlt, keepB hb4 d7 hlt⟩)
    ((go_at_call 11; refine (HUP.out _).mono ?_; rintro e w4 ⟨rfl, hb4⟩))
  have hb4 : Below W1.heap.size W1 w4 := ⟨hb4.os, hb4.tape, hb4.output, hb4.size, hb4.block⟩
  have HB4 := Lib.hid (HB1.out.below hb4 hlt)
  have HL4 := Lib.hid (HL2.out.trans (hb4.mono HL2.out.size))
  clear d0 d1 d2 d3 d4 d5 d6 d7 hlt hneq hb4 HB1 HL2 HUP
  go_wp2_with (with_reducible refine ev_load rfl 25 (.tmp 5) rfl (w1.heap.size) rfl 25 #[.int .i64 p0, .int .i64 p1, .int .i64 p2, .int .i64 p3, .int .i64 p4, .int .i64 p5, .int .i64 p6, .int .i64 p7] _ HB4.out hu rfl (by kernel_rfl) ?_)
  refine (HPUT.out _).mono ?_
  rintro e w5 ⟨rfl, hb5⟩
  have HB5 := Lib.hid (HB4.out.below hb5 HB4.out.lt)
  have HL5 := Lib.hid (HL4.out.trans (hb5.mono HL4.out.size))
  clear hb5 HB4 HL4 HPUT
  go_upto_if 32 with fail
  go_cut [] (fun wx => Below w.heap.size w wx)
  case first =>
    by_cases hc : CP = 0
    · subst hc
      have hPS := HTS.out rfl
      subst hPS
      have hg := HGET.out rfl
      rw [List.append_nil, if_pos trivial] at hg
      have hcut := HCUT.out rfl
      have hsz : (str T).size = T.length := str_size T
      have htp := HTP.out
      have htl := HTL.out rfl
      rw [← hsz] at hcut htp htl
      have hG := event_get (str T) (by unfold maxLen; omega)
      rw [hg] at hG
      have hH := event_get ((str T).extract 0 ((str T).size - 1)) (by rw [ByteArray.size_extract]; unfold maxLen; omega)
      have hyl := getL_length ((str T).extract 0 ((str T).size - 1))
      generalize (getL ((str T).extract 0 ((str T).size - 1))).2 = g at hcut hH
      obtain ⟨y0, y1, y2, y3, y4, y5, y6, y7, hy⟩ := eight_of hyl
      rw [hy] at hH
      have a1 : cellsI [p0, p1, p2, p3, p4, p5, p6, p7] = #[.int .i64 p0, .int .i64 p1, .int .i64 p2, .int .i64 p3, .int .i64 p4, .int .i64 p5, .int .i64 p6, .int .i64 p7] := rfl
      have a2 : cellsI [y0, y1, y2, y3, y4, y5, y6, y7] = #[.int .i64 y0, .int .i64 y1, .int .i64 y2, .int .i64 y3, .int .i64 y4, .int .i64 y5, .int .i64 y6, .int .i64 y7] := rfl
      rw [a1] at hG
      rw [a2] at hH
      have hgne : (g == 0) = false := by rw [beq_eq_false_iff_ne]; exact hcut
      generalize str T = ST at *
      have hm0 : (0 : Int) < (ST.size : Int) := by omega
      have hm1 : (ST.size : Int) ≤ 46 := by omega
      have hmz : ((ST.size : Int) == 0) = false := by rw [beq_eq_false_iff_ne]; omega
      have hnt : ((ST.size : Int) - 1).toNat = ST.size - 1 := by omega
      have HG := Lib.hid hG
      have HH := Lib.hid hH
      clear hG hH hy hyl a1 a2 hcut hsz htp htl hg HGET HCUT HTS HTP HTL
      go_wp2_with fail
      refine (HG.out _).mono ?_
      rintro e w6 ⟨rfl, hb6⟩
      have HB6 := Lib.hid (HB5.out.below hb6 HB5.out.lt)
      have HL6 := Lib.hid (HL5.out.trans (hb6.mono HL5.out.size))
      clear hb6 HB5 HL5
      go_wp2_with fail
      refine (HH.out _).mono ?_
      rintro e w7 ⟨rfl, hb7⟩
      have hz7 : w6.heap.size < w7.heap.size := by have := hb7.size; simp at this; omega
      have HB7 := Lib.hid ((HB6.out.alloc (.cells #[.int .i64 p0, .int .i64 p1, .int .i64 p2, .int .i64 p3, .int .i64 p4, .int .i64 p5, .int .i64 p6, .int .i64 p7] 25)).below hb7 (by have := HB6.out.lt; simp; omega))
      have HC7 : Hid (Blk w7 w6.heap.size #[.int .i64 p0, .int .i64 p1, .int .i64 p2, .int .i64 p3, .int .i64 p4, .int .i64 p5, .int .i64 p6, .int .i64 p7] 25) := Lib.hid ((Blk.new w6 _ _).below hb7 (by simp))
      have HL7 := Lib.hid ((HL6.out.alloc HL6.out.size (.cells #[.int .i64 p0, .int .i64 p1, .int .i64 p2, .int .i64 p3, .int .i64 p4, .int .i64 p5, .int .i64 p6, .int .i64 p7] 25)).trans (hb7.mono (by have := HL6.out.size; simp; omega)))
      clear hb7 HB6 HL6
      have hneq := HNEQ.out
      simp only [Bool.not_true] at hneq
      go_wp2_with (first
        | (with_reducible refine ev_load rfl 25 (.tmp 8) rfl (w6.heap.size) rfl 25 #[.int .i64 p0, .int .i64 p1, .int .i64 p2, .int .i64 p3, .int .i64 p4, .int .i64 p5, .int .i64 p6, .int .i64 p7] _ (HC7.out.alloc _) hu rfl (by kernel_rfl) ?_)
        | (with_reducible refine ev_load rfl 25 (.tmp 5) rfl (w1.heap.size) rfl 25 #[.int .i64 p0, .int .i64 p1, .int .i64 p2, .int .i64 p3, .int .i64 p4, .int .i64 p5, .int .i64 p6, .int .i64 p7] _ (HB7.out.alloc _) hu rfl (by kernel_rfl) ?_))
      go_meet
      exact HL7.out.alloc HL7.out.size _
    · have hne : (CP == 0) = false := by rw [beq_eq_false_iff_ne]; exact hc
      clear hc
      go_wp2_with fail
      go_meet
      exact HL5.out
  case rest =>
    have HLc := Lib.hid hcut
    clear hcut HB5 HL5 HGET HCUT HTS HTP HTL HNEQ
    obtain ⟨wd, rfl⟩ : ∃ wd, wd = wc := ⟨_, rfl⟩
    have hG := event_get s HS.out
    have hxl := getL_length s
    have herr := getL_err s
    have hok := put_get s
    obtain ⟨X, hX⟩ : ∃ X, (getL s).1 = X := ⟨_, rfl⟩
    obtain ⟨h, hh⟩ : ∃ h, (getL s).2 = h := ⟨_, rfl⟩
    rw [hX] at hG hxl herr hok
    rw [hh] at hG herr hok
    clear hX hh
    by_cases h0 : h = 0
    · subst h0
      obtain ⟨o1, o2, o3, o4⟩ := hok rfl
      have hps : putS X = s := by unfold putS; rw [if_pos o1]; exact o4
      have hPut := event_put X hxl o2
      rw [hps, o1] at hPut
      have hUX := event_pure X hxl
      rw [(check_pure o1).1] at hUX
      have hq := eql_event X X hxl hxl
      rw [decide_eq_true (rfl : X = X)] at hq
      obtain ⟨x0, x1, x2, x3, x4, x5, x6, x7, rfl⟩ := eight_of hxl
      have a1 : cellsI [x0, x1, x2, x3, x4, x5, x6, x7] = #[.int .i64 x0, .int .i64 x1, .int .i64 x2, .int .i64 x3, .int .i64 x4, .int .i64 x5, .int .i64 x6, .int .i64 x7] := rfl
      rw [a1] at hG hPut hUX hq
      clear a1 herr hok o1 o2 o3 o4 hps hxl
      have HG := Lib.hid hG
      have HPX := Lib.hid hPut
      have HUX := Lib.hid hUX
      have HQ := Lib.hid hq
      clear hG hPut hUX hq
      go_wp2_with fail
      refine (HG.out _).mono ?_
      rintro e w6 ⟨rfl, hb6⟩
      have HL6 := Lib.hid (HLc.out.trans (hb6.mono HLc.out.size))
      clear hb6 HLc
      go_wp2_with (with_reducible refine ev_load rfl 25 (.tmp 12) rfl (w6.heap.size) rfl 25 #[.int .i64 x0, .int .i64 x1, .int .i64 x2, .int .i64 x3, .int .i64 x4, .int .i64 x5, .int .i64 x6, .int .i64 x7] _ (Blk.new w6 _ _) hu rfl (by kernel_rfl) ?_)
      refine (HPX.out _).mono ?_
      rintro e w7 ⟨rfl, hb7⟩
      have HB7 : Hid (Blk w7 w6.heap.size #[.int .i64 x0, .int .i64 x1, .int .i64 x2, .int .i64 x3, .int .i64 x4, .int .i64 x5, .int .i64 x6, .int .i64 x7] 25) := Lib.hid ((Blk.new w6 _ _).below hb7 (by simp))
      have HL7 := Lib.hid ((HL6.out.alloc HL6.out.size (.cells #[.int .i64 x0, .int .i64 x1, .int .i64 x2, .int .i64 x3, .int .i64 x4, .int .i64 x5, .int .i64 x6, .int .i64 x7] 25)).trans (hb7.mono (by have := HL6.out.size; simp; omega)))
      clear hb7 HL6
      have d0 := HB7.out.cell (i := 0) rfl
      have d1 := HB7.out.cell (i := 1) rfl
      have d2 := HB7.out.cell (i := 2) rfl
      have d3 := HB7.out.cell (i := 3) rfl
      have d4 := HB7.out.cell (i := 4) rfl
      have d5 := HB7.out.cell (i := 5) rfl
      have d6 := HB7.out.cell (i := 6) rfl
      have d7 := HB7.out.cell (i := 7) rfl
      have hlt := HB7.out.lt
      go_upto_region 18 with fail
      have hq := HQ.out
      go_region_held3 (fun w' => w'.cell? ⟨w6.heap.size, 0, none⟩ = some (.int .i64 x0) ∧ w'.cell? ⟨w6.heap.size, 1, none⟩ = some (.int .i64 x1) ∧ w'.cell? ⟨w6.heap.size, 2, none⟩ = some (.int .i64 x2) ∧ w'.cell? ⟨w6.heap.size, 3, none⟩ = some (.int .i64 x3) ∧ w'.cell? ⟨w6.heap.size, 4, none⟩ = some (.int .i64 x4) ∧ w'.cell? ⟨w6.heap.size, 5, none⟩ = some (.int .i64 x5) ∧ w'.cell? ⟨w6.heap.size, 6, none⟩ = some (.int .i64 x6) ∧ w'.cell? ⟨w6.heap.size, 7, none⟩ = some (.int .i64 x7))
        (first | (go_keep; done) | exact ⟨keepB hw9 d0 hlt, keepB hw9 d1 hlt, keepB hw9 d2 hlt, keepB hw9 d3 hlt, keepB hw9 d4 hlt, keepB hw9 d5 hlt, keepB hw9 d6 hlt, keepB hw9 d7 hlt⟩ | exact ⟨keepB hw8 d0 hlt, keepB hw8 d1 hlt, keepB hw8 d2 hlt, keepB hw8 d3 hlt, keepB hw8 d4 hlt, keepB hw8 d5 hlt, keepB hw8 d6 hlt, keepB hw8 d7 hlt⟩)
        (first
          | (go_at_call 11; refine (HUX.out _).mono ?_; rintro e w8 ⟨rfl, hb⟩; have hw8 : Below w7.heap.size w7 w8 := ⟨hb.os, hb.tape, hb.output, hb.size, hb.block⟩; clear hb)
          | (go_at_call 13; refine (awake18 _).mono ?_; rintro e w9 ⟨rfl, hb⟩; have hw9 : Below w7.heap.size w7 w9 := hw8.trans (Below.mono (by exact ⟨hb.os, hb.tape, hb.output, hb.size, hb.block⟩) hw8.size); clear hb))
      have HL9 := Lib.hid (HL7.out.trans (hw9.mono HL7.out.size))
      go_wp2_with fail
      go_ret
      exact ⟨rfl, HL9.out⟩
    · have hne : (h == 0) = false := by rw [beq_eq_false_iff_ne]; exact h0
      have hb0 := herr h0
      subst hb0
      have hq := eql_event (bare 0) (bare 0) rfl rfl
      rw [decide_eq_true (rfl : bare 0 = bare 0)] at hq
      have a1 : cellsI (bare 0) = #[.int .i64 0, .int .i64 0, .int .i64 0, .int .i64 0, .int .i64 0, .int .i64 0, .int .i64 0, .int .i64 0] := rfl
      rw [a1] at hG hq
      clear a1 herr hok h0 hxl
      have HG := Lib.hid hG
      clear hG
      go_wp2_with fail
      refine (HG.out _).mono ?_
      rintro e w6 ⟨rfl, hb6⟩
      have HL6 := Lib.hid (HLc.out.trans (hb6.mono HLc.out.size))
      clear hb6 HLc
      go_wp2_with (with_reducible refine ev_load rfl 25 (.tmp 12) rfl (w6.heap.size) rfl 25 #[.int .i64 0, .int .i64 0, .int .i64 0, .int .i64 0, .int .i64 0, .int .i64 0, .int .i64 0, .int .i64 0] _ (Blk.new w6 _ _) hu rfl (by kernel_rfl) ?_)
      refine (awake18 _).mono ?_
      rintro e w7 ⟨rfl, hb7⟩
      have HL7 := Lib.hid ((HL6.out.alloc HL6.out.size _).trans (hb7.mono (by have := HL6.out.size; simp; omega)))
      clear hb7
      go_wp2_with fail
      go_ret
      exact ⟨rfl, HL7.out⟩
end Go.Proofs.Ytokghlmffkboiaa
