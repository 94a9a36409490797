/-
  The walk of the statement MsgBack.
-/
import Derived.Test.YtcibeiehdjekiaaGreatDoorMsgGetsWalk
import Derived.Test.YtcibeiehdjekiaaGreatDoorMsgPutsWalk
namespace Go.Proofs.YtcibeiehdjekiaaGreatDoor
open Go.RowKit
set_option linter.unusedVariables false
set_option linter.unusedSimpArgs false

theorem nameM_le (n : Int) (h : (Lit.int .i64 n).wf = true) : (nameM n).length ≤ 30 := by
  have hp := place_cases n
  unfold nameM
  have hb : ∀ k : Int, 0 ≤ k → k ≤ 200 → (Lib.itoa k).length ≤ 20 := fun k h1 h2 => itoa_len k ⟨by omega, by omega⟩
  rcases hp with ⟨h1, h2, h3⟩ | ⟨h1, h2, h3⟩ | ⟨h1, _⟩ | ⟨h1, _⟩ <;> rw [h1]
  · have := hb n h2 (by omega); simp; omega
  · have := hb (n - 100) (by omega) (by omega); simp; omega
  · simp
  · simp
set_option maxRecDepth 100000 in
set_option maxHeartbeats 6400000 in
theorem walk_MsgBack (m0 m1 m2 m3 m4 m5 m6 m7 m8 m9 m10 m11 : Int) (s : ByteArray) (n : Int) (w : World) (h0 : (Lit.int .i64 m0).wf = true) (h1 : (Lit.int .i64 m1).wf = true) (h2 : (Lit.int .i64 m2).wf = true) (h3 : (Lit.int .i64 m3).wf = true) (h4 : (Lit.int .i64 m4).wf = true) (h5 : (Lit.int .i64 m5).wf = true) (h6 : (Lit.int .i64 m6).wf = true) (h7 : (Lit.int .i64 m7).wf = true) (h8 : (Lit.int .i64 m8).wf = true) (h9 : (Lit.int .i64 m9).wf = true) (h10 : (Lit.int .i64 m10).wf = true) (h11 : (Lit.int .i64 m11).wf = true) (hs : s.size ≤ maxLen) (hn : (Lit.int .i64 n).wf = true) (hLR : laidMetH Tryz.prog Rows.msgBackRow.laid w) :
    Calls Tryz.prog 5 #[.agg #[.int .i64 m0, .int .i64 m1, .int .i64 m2, .int .i64 m3, .int .i64 m4, .int .i64 m5, .int .i64 m6, .int .i64 m7, .int .i64 m8, .int .i64 m9, .int .i64 m10, .int .i64 m11], .string s, .int .i64 n] w fun e w' => e = .returned (.bool true) ∧ Below w.heap.size w w' := by
  have hu := Tryz.underlying25
  have hs63 : s.size ≤ 9223372036854775807 := by unfold maxLen at hs; omega
  have hwf : wfI [m0, m1, m2, m3, m4, m5, m6, m7, m8, m9, m10, m11] := wf_twelve h0 h1 h2 h3 h4 h5 h6 h7 h8 h9 h10 h11
  clear h0 h1 h2 h3 h4 h5 h6 h7 h8 h9 h10 h11
  have HL0 := Lib.hid (laid_msg_Back hLR)
  clear hLR
  by_cases hbig : 300 < s.size
  · have hbI : (300 : Int) < (s.size : Int) := by omega
    clear hbig hwf
    go_enter Tryz.func5, Tryz.ntmps5
    go_wp2_with fail
    refine (awake35 _ (HL0.out.below ((Below.refl w.heap.size w).alloc (Nat.le_refl _) _))).mono ?_
    rintro e w1 ⟨rfl, hb⟩
    have HL := Lib.hid (((Below.refl w.heap.size w).alloc (Nat.le_refl _) (.cells #[.int .i64 m0, .int .i64 m1, .int .i64 m2, .int .i64 m3, .int .i64 m4, .int .i64 m5, .int .i64 m6, .int .i64 m7, .int .i64 m8, .int .i64 m9, .int .i64 m10, .int .i64 m11] 25)).trans (hb.mono (by simp)))
    clear hb
    go_wp2_with fail
    go_ret
    exact ⟨rfl, HL.out⟩
  have hbI : (s.size : Int) ≤ 300 := by omega
  clear hbig
  -- the message
  have hP := msg_put [m0, m1, m2, m3, m4, m5, m6, m7, m8, m9, m10, m11] rfl hwf
  have hU := msg_pure [m0, m1, m2, m3, m4, m5, m6, m7, m8, m9, m10, m11] rfl
  have hput := getM_put [m0, m1, m2, m3, m4, m5, m6, m7, m8, m9, m10, m11] rfl hwf
  have hok := putM_ok [m0, m1, m2, m3, m4, m5, m6, m7, m8, m9, m10, m11] hwf
  have hck : (putM [m0, m1, m2, m3, m4, m5, m6, m7, m8, m9, m10, m11]).2 = 0 → checkM [m0, m1, m2, m3, m4, m5, m6, m7, m8, m9, m10, m11] = 0 := by
    intro h
    by_cases hc : checkM [m0, m1, m2, m3, m4, m5, m6, m7, m8, m9, m10, m11] = 0
    · exact hc
    · unfold putM at h; rw [if_neg hc] at h; exact h
  have hpu : (putM [m0, m1, m2, m3, m4, m5, m6, m7, m8, m9, m10, m11]).2 = 0 → pureM [m0, m1, m2, m3, m4, m5, m6, m7, m8, m9, m10, m11] = [m0, m1, m2, m3, m4, m5, m6, m7, m8, m9, m10, m11] ∧ getM (putM [m0, m1, m2, m3, m4, m5, m6, m7, m8, m9, m10, m11]).1 = ([m0, m1, m2, m3, m4, m5, m6, m7, m8, m9, m10, m11], 0) ∧ (putM [m0, m1, m2, m3, m4, m5, m6, m7, m8, m9, m10, m11]).1.size ≤ 71 := by
    intro h
    have hc := hck h
    refine ⟨(checkM_ok hc).2.1, hput hc, ?_⟩
    rw [hok hc]
    show (sealB _).size ≤ 71
    rw [sealB_size, str_size]
    have := putMB_le [m0, m1, m2, m3, m4, m5, m6, m7, m8, m9, m10, m11] (fun i => (wfI_fld hwf i).2)
    omega
  have hneq := neq_msg [m0, m1, m2, m3, m4, m5, m6, m7, m8, m9, m10, m11] [m0, m1, m2, m3, m4, m5, m6, m7, m8, m9, m10, m11] rfl rfl
  rw [decide_eq_true rfl] at hneq
  have a1 : cellsI [m0, m1, m2, m3, m4, m5, m6, m7, m8, m9, m10, m11] = #[.int .i64 m0, .int .i64 m1, .int .i64 m2, .int .i64 m3, .int .i64 m4, .int .i64 m5, .int .i64 m6, .int .i64 m7, .int .i64 m8, .int .i64 m9, .int .i64 m10, .int .i64 m11] := rfl
  rw [a1] at hP hU hneq
  obtain ⟨PUT, hPUT⟩ : ∃ p, putM [m0, m1, m2, m3, m4, m5, m6, m7, m8, m9, m10, m11] = p := ⟨_, rfl⟩
  rw [hPUT] at hP hpu
  clear hput hok hck hPUT hwf
  obtain ⟨T, E⟩ := PUT
  have HP := Lib.hid hP
  have HPU := Lib.hid hpu
  have HU0 := Lib.hid hU
  have HNEQ := Lib.hid hneq
  have HA1 := Lib.hid a1
  clear hP hU hneq a1 hpu
  -- the name
  have hNM := fun w hl => msg_name n w hl
  have hPN := msg_parseName (strL (nameM n)) (by have := nameM_le n hn; rw [strL_size]; omega)
  rw [strL_list] at hPN
  have hPA := fun w => msg_place n w
  have hpn := place_name n
  generalize strL (nameM n) = NA at hNM hPN
  obtain ⟨Q, hQ⟩ : ∃ q, parseN (nameM n) = q := ⟨_, rfl⟩
  rw [hQ] at hPN hpn
  clear hQ
  obtain ⟨PB, PK⟩ := Q
  generalize placeI n = PL at hPA hpn
  have HNM := Lib.hid hNM
  have HPN := Lib.hid hPN
  have HPA := Lib.hid hPA
  have HPNE := Lib.hid hpn
  clear hNM hPN hPA hpn
  have HS := Lib.hid hs
  clear hs
  obtain ⟨W, hW⟩ : ∃ W, w.alloc (.cells #[.int .i64 m0, .int .i64 m1, .int .i64 m2, .int .i64 m3, .int .i64 m4, .int .i64 m5, .int .i64 m6, .int .i64 m7, .int .i64 m8, .int .i64 m9, .int .i64 m10, .int .i64 m11] 25) = W := ⟨_, rfl⟩
  have HB : Hid (Blk W w.heap.size #[.int .i64 m0, .int .i64 m1, .int .i64 m2, .int .i64 m3, .int .i64 m4, .int .i64 m5, .int .i64 m6, .int .i64 m7, .int .i64 m8, .int .i64 m9, .int .i64 m10, .int .i64 m11] 25) := Lib.hid (by rw [← hW]; exact Blk.new w _ _)
  have HL : Hid (Below w.heap.size w W) := Lib.hid (by rw [← hW]; exact (Below.refl w.heap.size w).alloc (Nat.le_refl _) _)
  have HW := Lib.hid hW
  clear hW
  go_enter Tryz.func5, Tryz.ntmps5
  go_upto_region 1 with fail
  rw [HW.out]
  clear HW
  go_upto_region 3 with fail
  go_wp2_with fail
  refine (HNM.out _ (HL0.out.below HL.out).laid).mono ?_
  rintro e w1 ⟨rfl, hb1⟩
  have HB1 := Lib.hid (HB.out.below hb1 HB.out.lt)
  have HL1 := Lib.hid (HL.out.trans (hb1.mono HL.out.size))
  clear hb1 HB HL
  go_wp2_with fail
  refine (HPN.out _ (HL0.out.below HL1.out).laid).mono ?_
  rintro e w2 ⟨rfl, hb2⟩
  have HB2 := Lib.hid (HB1.out.below hb2 HB1.out.lt)
  have HL2 := Lib.hid (HL1.out.trans (hb2.mono HL1.out.size))
  clear hb2 HB1 HL1
  go_upto_region 4 with fail
  go_cut [39] (fun s39 wx => s39 = .bool false ∧ w2 = wx)
  case first =>
    by_cases hp : 0 < PL
    · obtain ⟨rfl, rfl⟩ : PK = true ∧ PB = n := ⟨HPNE.out.1.2 hp, HPNE.out.2 hp⟩
      clear HPNE
      go_wp2_with fail
      refine (HPA.out _).mono ?_
      rintro e w3 ⟨rfl, rfl⟩
      go_wp2_with fail
      go_meet
      exact ⟨rfl, rfl⟩
    · obtain rfl : PK = false := by cases PK with
        | false => rfl
        | true => exact absurd (HPNE.out.1.1 rfl) hp
      have hp' : PL ≤ 0 := by omega
      clear HPNE
      go_wp2_with fail
      refine (HPA.out _).mono ?_
      rintro e w3 ⟨rfl, rfl⟩
      go_wp2_with fail
      go_meet
      exact ⟨by rw [decide_eq_false (by omega : ¬ 0 < PL)], rfl⟩
  case rest =>
    obtain ⟨rfl, rfl⟩ := hcut
    go_wp2_with (with_reducible refine ev_load rfl 25 (.tmp 3) rfl w.heap.size rfl 25 #[.int .i64 m0, .int .i64 m1, .int .i64 m2, .int .i64 m3, .int .i64 m4, .int .i64 m5, .int .i64 m6, .int .i64 m7, .int .i64 m8, .int .i64 m9, .int .i64 m10, .int .i64 m11] _ HB2.out hu rfl (by kernel_rfl) ?_)
    refine (HP.out _ (HL0.out.below HL2.out)).mono ?_
    rintro e w5 ⟨rfl, hb5⟩
    have HB5 := Lib.hid (HB2.out.below hb5 HB2.out.lt)
    have HL5 := Lib.hid (HL2.out.trans (hb5.mono HL2.out.size))
    clear hb5 HB2 HL2 HNM HPN HPA HPNE HP
    go_upto_if 46 with fail
    go_cut [] (fun wx => Below w.heap.size w wx)
    case first =>
      by_cases hc : E = 0
      · subst hc
        obtain ⟨hpp, hgg, hsz⟩ := HPU.out rfl
        have hG := msg_get T (by unfold maxLen; omega)
        rw [hgg, HA1.out] at hG
        have hU := HU0.out
        rw [hpp, HA1.out] at hU
        have HG := Lib.hid hG
        have HU := Lib.hid hU
        have hneq := HNEQ.out
        simp only [Bool.not_true] at hneq
        clear hpp hgg hsz hG hU HPU
        go_wp2_with fail
        refine (HG.out _ (HL0.out.below HL5.out)).mono ?_
        rintro e w6 ⟨rfl, hb6⟩
        have HM6 := Lib.hid (HB5.out.below hb6 HB5.out.lt)
        have HL6 := Lib.hid (HL5.out.trans (hb6.mono HL5.out.size))
        clear hb6
        go_upto_region 9 with fail
        obtain ⟨w7, hw7⟩ : ∃ w7, w6.alloc (.cells #[.int .i64 m0, .int .i64 m1, .int .i64 m2, .int .i64 m3, .int .i64 m4, .int .i64 m5, .int .i64 m6, .int .i64 m7, .int .i64 m8, .int .i64 m9, .int .i64 m10, .int .i64 m11] 25) = w7 := ⟨_, rfl⟩
        obtain ⟨X, hX⟩ : ∃ X, w6.heap.size = X := ⟨_, rfl⟩
        have HX7 : Hid (Blk w7 X #[.int .i64 m0, .int .i64 m1, .int .i64 m2, .int .i64 m3, .int .i64 m4, .int .i64 m5, .int .i64 m6, .int .i64 m7, .int .i64 m8, .int .i64 m9, .int .i64 m10, .int .i64 m11] 25) := Lib.hid (by rw [← hw7, ← hX]; exact Blk.new w6 _ _)
        have HM7 : Hid (Blk w7 w.heap.size #[.int .i64 m0, .int .i64 m1, .int .i64 m2, .int .i64 m3, .int .i64 m4, .int .i64 m5, .int .i64 m6, .int .i64 m7, .int .i64 m8, .int .i64 m9, .int .i64 m10, .int .i64 m11] 25) := Lib.hid (by rw [← hw7]; exact HM6.out.alloc _)
        have HL7 : Hid (Below w.heap.size w w7) := Lib.hid (by rw [← hw7]; exact HL6.out.alloc HL6.out.size _)
        rw [hw7, hX]
        clear hw7 hX HM6 HL6 HB5 HL5
        refine wp_region_held_drew (S := (fun w' => Blk w' w.heap.size #[.int .i64 m0, .int .i64 m1, .int .i64 m2, .int .i64 m3, .int .i64 m4, .int .i64 m5, .int .i64 m6, .int .i64 m7, .int .i64 m8, .int .i64 m9, .int .i64 m10, .int .i64 m11] 25 ∧ Blk w' X #[.int .i64 m0, .int .i64 m1, .int .i64 m2, .int .i64 m3, .int .i64 m4, .int .i64 m5, .int .i64 m6, .int .i64 m7, .int .i64 m8, .int .i64 m9, .int .i64 m10, .int .i64 m11] 25)) (by kernel_rfl) ⟨HM7.out, HX7.out⟩ (fun hHeld => ?_)
        refine wpAnyH_take (i := 0) (oi := ({ dst := some 52, op := Op.load 25 (Operand.tmp 11), type := 25, pos := "law.go:54", after := #[], guard := none })) (v := (.agg #[.int .i64 m0, .int .i64 m1, .int .i64 m2, .int .i64 m3, .int .i64 m4, .int .i64 m5, .int .i64 m6, .int .i64 m7, .int .i64 m8, .int .i64 m9, .int .i64 m10, .int .i64 m11])) rfl (by kernel_rfl) (by kernel_rfl) (by kernel_rfl) (fun _ _ _ h => h) (Or.inl ⟨by rfl, ?_⟩) (by assumption) ?_
        · (intro w hSw; obtain ⟨hS1, hS2⟩ := hSw; have s0 := hS1.cell (i := 0) rfl; have t0 := hS2.cell (i := 0) rfl; have s1 := hS1.cell (i := 1) rfl; have t1 := hS2.cell (i := 1) rfl; have s2 := hS1.cell (i := 2) rfl; have t2 := hS2.cell (i := 2) rfl; have s3 := hS1.cell (i := 3) rfl; have t3 := hS2.cell (i := 3) rfl; have s4 := hS1.cell (i := 4) rfl; have t4 := hS2.cell (i := 4) rfl; have s5 := hS1.cell (i := 5) rfl; have t5 := hS2.cell (i := 5) rfl; have s6 := hS1.cell (i := 6) rfl; have t6 := hS2.cell (i := 6) rfl; have s7 := hS1.cell (i := 7) rfl; have t7 := hS2.cell (i := 7) rfl; have s8 := hS1.cell (i := 8) rfl; have t8 := hS2.cell (i := 8) rfl; have s9 := hS1.cell (i := 9) rfl; have t9 := hS2.cell (i := 9) rfl; have s10 := hS1.cell (i := 10) rfl; have t10 := hS2.cell (i := 10) rfl; have s11 := hS1.cell (i := 11) rfl; have t11 := hS2.cell (i := 11) rfl; go_simp)
        try simp only [Act.put, List.setIfInBounds_toArray, List.set_cons_zero, List.set_cons_succ]
        refine wpAnyH_take (i := 1) (oi := ({ dst := some 53, op := Op.load 25 (Operand.tmp 3), type := 25, pos := "law.go:54", after := #[], guard := none })) (v := (.agg #[.int .i64 m0, .int .i64 m1, .int .i64 m2, .int .i64 m3, .int .i64 m4, .int .i64 m5, .int .i64 m6, .int .i64 m7, .int .i64 m8, .int .i64 m9, .int .i64 m10, .int .i64 m11])) rfl (by kernel_rfl) (by kernel_rfl) (by kernel_rfl) (fun _ _ _ h => h) (Or.inl ⟨by rfl, ?_⟩) (by assumption) ?_
        · (intro w hSw; obtain ⟨hS1, hS2⟩ := hSw; have s0 := hS1.cell (i := 0) rfl; have t0 := hS2.cell (i := 0) rfl; have s1 := hS1.cell (i := 1) rfl; have t1 := hS2.cell (i := 1) rfl; have s2 := hS1.cell (i := 2) rfl; have t2 := hS2.cell (i := 2) rfl; have s3 := hS1.cell (i := 3) rfl; have t3 := hS2.cell (i := 3) rfl; have s4 := hS1.cell (i := 4) rfl; have t4 := hS2.cell (i := 4) rfl; have s5 := hS1.cell (i := 5) rfl; have t5 := hS2.cell (i := 5) rfl; have s6 := hS1.cell (i := 6) rfl; have t6 := hS2.cell (i := 6) rfl; have s7 := hS1.cell (i := 7) rfl; have t7 := hS2.cell (i := 7) rfl; have s8 := hS1.cell (i := 8) rfl; have t8 := hS2.cell (i := 8) rfl; have s9 := hS1.cell (i := 9) rfl; have t9 := hS2.cell (i := 9) rfl; have s10 := hS1.cell (i := 10) rfl; have t10 := hS2.cell (i := 10) rfl; have s11 := hS1.cell (i := 11) rfl; have t11 := hS2.cell (i := 11) rfl; go_simp)
        try simp only [Act.put, List.setIfInBounds_toArray, List.set_cons_zero, List.set_cons_succ]
        refine wpAnyH_take (i := 2) (oi := ({ dst := some 54, op := Op.binOp BinOp.neq 25 (Operand.tmp 52) (Operand.tmp 53) 25, type := 4, pos := "law.go:54", after := #[{ on := 0, ground := Ground.data }, { on := 1, ground := Ground.data }], guard := none })) (v := (.bool false)) rfl (by kernel_rfl) (by kernel_rfl) (by kernel_rfl) (fun _ _ _ h => h) (Or.inl ⟨by rfl, ?_⟩) (by assumption) ?_
        · (intro w hSw; obtain ⟨hS1, hS2⟩ := hSw; have s0 := hS1.cell (i := 0) rfl; have t0 := hS2.cell (i := 0) rfl; have s1 := hS1.cell (i := 1) rfl; have t1 := hS2.cell (i := 1) rfl; have s2 := hS1.cell (i := 2) rfl; have t2 := hS2.cell (i := 2) rfl; have s3 := hS1.cell (i := 3) rfl; have t3 := hS2.cell (i := 3) rfl; have s4 := hS1.cell (i := 4) rfl; have t4 := hS2.cell (i := 4) rfl; have s5 := hS1.cell (i := 5) rfl; have t5 := hS2.cell (i := 5) rfl; have s6 := hS1.cell (i := 6) rfl; have t6 := hS2.cell (i := 6) rfl; have s7 := hS1.cell (i := 7) rfl; have t7 := hS2.cell (i := 7) rfl; have s8 := hS1.cell (i := 8) rfl; have t8 := hS2.cell (i := 8) rfl; have s9 := hS1.cell (i := 9) rfl; have t9 := hS2.cell (i := 9) rfl; have s10 := hS1.cell (i := 10) rfl; have t10 := hS2.cell (i := 10) rfl; have s11 := hS1.cell (i := 11) rfl; have t11 := hS2.cell (i := 11) rfl; go_simp)
        try simp only [Act.put, List.setIfInBounds_toArray, List.set_cons_zero, List.set_cons_succ]
        refine wpAnyH_take (i := 3) (oi := ({ dst := some 55, op := Op.move (Operand.tmp 54), type := 4, pos := "law.go:54", after := #[{ on := 2, ground := Ground.data }], guard := none })) (v := (.bool false)) rfl (by kernel_rfl) (by kernel_rfl) (by kernel_rfl) (fun _ _ _ h => h) (Or.inl ⟨by rfl, ?_⟩) (by assumption) ?_
        · (intro w hSw; obtain ⟨hS1, hS2⟩ := hSw; have s0 := hS1.cell (i := 0) rfl; have t0 := hS2.cell (i := 0) rfl; have s1 := hS1.cell (i := 1) rfl; have t1 := hS2.cell (i := 1) rfl; have s2 := hS1.cell (i := 2) rfl; have t2 := hS2.cell (i := 2) rfl; have s3 := hS1.cell (i := 3) rfl; have t3 := hS2.cell (i := 3) rfl; have s4 := hS1.cell (i := 4) rfl; have t4 := hS2.cell (i := 4) rfl; have s5 := hS1.cell (i := 5) rfl; have t5 := hS2.cell (i := 5) rfl; have s6 := hS1.cell (i := 6) rfl; have t6 := hS2.cell (i := 6) rfl; have s7 := hS1.cell (i := 7) rfl; have t7 := hS2.cell (i := 7) rfl; have s8 := hS1.cell (i := 8) rfl; have t8 := hS2.cell (i := 8) rfl; have s9 := hS1.cell (i := 9) rfl; have t9 := hS2.cell (i := 9) rfl; have s10 := hS1.cell (i := 10) rfl; have t10 := hS2.cell (i := 10) rfl; have s11 := hS1.cell (i := 11) rfl; have t11 := hS2.cell (i := 11) rfl; go_simp)
        try simp only [Act.put, List.setIfInBounds_toArray, List.set_cons_zero, List.set_cons_succ]
        refine wpAnyH_take (i := 4) (oi := ({ dst := some 56, op := Op.move (Operand.tmp 12), type := 27, pos := "law.go:54", after := #[{ on := 3, ground := Ground.guard }], guard := some (3, false) })) (v := (.int .i64 0)) rfl (by kernel_rfl) (by kernel_rfl) (by kernel_rfl) (fun _ _ _ h => h) (Or.inl ⟨by rfl, ?_⟩) (by assumption) ?_
        · (intro w hSw; obtain ⟨hS1, hS2⟩ := hSw; have s0 := hS1.cell (i := 0) rfl; have t0 := hS2.cell (i := 0) rfl; have s1 := hS1.cell (i := 1) rfl; have t1 := hS2.cell (i := 1) rfl; have s2 := hS1.cell (i := 2) rfl; have t2 := hS2.cell (i := 2) rfl; have s3 := hS1.cell (i := 3) rfl; have t3 := hS2.cell (i := 3) rfl; have s4 := hS1.cell (i := 4) rfl; have t4 := hS2.cell (i := 4) rfl; have s5 := hS1.cell (i := 5) rfl; have t5 := hS2.cell (i := 5) rfl; have s6 := hS1.cell (i := 6) rfl; have t6 := hS2.cell (i := 6) rfl; have s7 := hS1.cell (i := 7) rfl; have t7 := hS2.cell (i := 7) rfl; have s8 := hS1.cell (i := 8) rfl; have t8 := hS2.cell (i := 8) rfl; have s9 := hS1.cell (i := 9) rfl; have t9 := hS2.cell (i := 9) rfl; have s10 := hS1.cell (i := 10) rfl; have t10 := hS2.cell (i := 10) rfl; have s11 := hS1.cell (i := 11) rfl; have t11 := hS2.cell (i := 11) rfl; go_simp)
        try simp only [Act.put, List.setIfInBounds_toArray, List.set_cons_zero, List.set_cons_succ]
        refine wpAnyH_take (i := 5) (oi := ({ dst := some 57, op := Op.binOp BinOp.neq 27 (Operand.tmp 56) (Operand.const (Value.int IntKind.i64 0)) 27, type := 4, pos := "law.go:54", after := #[{ on := 4, ground := Ground.data }, { on := 3, ground := Ground.guard }], guard := some (3, false) })) (v := (.bool false)) rfl (by kernel_rfl) (by kernel_rfl) (by kernel_rfl) (fun _ _ _ h => h) (Or.inl ⟨by rfl, ?_⟩) (by assumption) ?_
        · (intro w hSw; obtain ⟨hS1, hS2⟩ := hSw; have s0 := hS1.cell (i := 0) rfl; have t0 := hS2.cell (i := 0) rfl; have s1 := hS1.cell (i := 1) rfl; have t1 := hS2.cell (i := 1) rfl; have s2 := hS1.cell (i := 2) rfl; have t2 := hS2.cell (i := 2) rfl; have s3 := hS1.cell (i := 3) rfl; have t3 := hS2.cell (i := 3) rfl; have s4 := hS1.cell (i := 4) rfl; have t4 := hS2.cell (i := 4) rfl; have s5 := hS1.cell (i := 5) rfl; have t5 := hS2.cell (i := 5) rfl; have s6 := hS1.cell (i := 6) rfl; have t6 := hS2.cell (i := 6) rfl; have s7 := hS1.cell (i := 7) rfl; have t7 := hS2.cell (i := 7) rfl; have s8 := hS1.cell (i := 8) rfl; have t8 := hS2.cell (i := 8) rfl; have s9 := hS1.cell (i := 9) rfl; have t9 := hS2.cell (i := 9) rfl; have s10 := hS1.cell (i := 10) rfl; have t10 := hS2.cell (i := 10) rfl; have s11 := hS1.cell (i := 11) rfl; have t11 := hS2.cell (i := 11) rfl; go_simp)
        try simp only [Act.put, List.setIfInBounds_toArray, List.set_cons_zero, List.set_cons_succ]
        refine wpAnyH_take (i := 6) (oi := ({ dst := some 58, op := Op.pick (Operand.tmp 55) (Operand.const (Value.bool true)) (Operand.tmp 57), type := 4, pos := "law.go:54", after := #[{ on := 3, ground := Ground.data }, { on := 5, ground := Ground.data }], guard := none })) (v := (.bool false)) rfl (by kernel_rfl) (by kernel_rfl) (by kernel_rfl) (fun _ _ _ h => h) (Or.inl ⟨by rfl, ?_⟩) (by assumption) ?_
        · (intro w hSw; obtain ⟨hS1, hS2⟩ := hSw; have s0 := hS1.cell (i := 0) rfl; have t0 := hS2.cell (i := 0) rfl; have s1 := hS1.cell (i := 1) rfl; have t1 := hS2.cell (i := 1) rfl; have s2 := hS1.cell (i := 2) rfl; have t2 := hS2.cell (i := 2) rfl; have s3 := hS1.cell (i := 3) rfl; have t3 := hS2.cell (i := 3) rfl; have s4 := hS1.cell (i := 4) rfl; have t4 := hS2.cell (i := 4) rfl; have s5 := hS1.cell (i := 5) rfl; have t5 := hS2.cell (i := 5) rfl; have s6 := hS1.cell (i := 6) rfl; have t6 := hS2.cell (i := 6) rfl; have s7 := hS1.cell (i := 7) rfl; have t7 := hS2.cell (i := 7) rfl; have s8 := hS1.cell (i := 8) rfl; have t8 := hS2.cell (i := 8) rfl; have s9 := hS1.cell (i := 9) rfl; have t9 := hS2.cell (i := 9) rfl; have s10 := hS1.cell (i := 10) rfl; have t10 := hS2.cell (i := 10) rfl; have s11 := hS1.cell (i := 11) rfl; have t11 := hS2.cell (i := 11) rfl; go_simp)
        try simp only [Act.put, List.setIfInBounds_toArray, List.set_cons_zero, List.set_cons_succ]
        refine wpAnyH_take (i := 7) (oi := ({ dst := some 59, op := Op.move (Operand.tmp 58), type := 4, pos := "law.go:54", after := #[{ on := 6, ground := Ground.data }, { on := 3, ground := Ground.chain }], guard := none })) (v := (.bool false)) rfl (by kernel_rfl) (by kernel_rfl) (by kernel_rfl) (fun _ _ _ h => h) (Or.inl ⟨by rfl, ?_⟩) (by assumption) ?_
        · (intro w hSw; obtain ⟨hS1, hS2⟩ := hSw; have s0 := hS1.cell (i := 0) rfl; have t0 := hS2.cell (i := 0) rfl; have s1 := hS1.cell (i := 1) rfl; have t1 := hS2.cell (i := 1) rfl; have s2 := hS1.cell (i := 2) rfl; have t2 := hS2.cell (i := 2) rfl; have s3 := hS1.cell (i := 3) rfl; have t3 := hS2.cell (i := 3) rfl; have s4 := hS1.cell (i := 4) rfl; have t4 := hS2.cell (i := 4) rfl; have s5 := hS1.cell (i := 5) rfl; have t5 := hS2.cell (i := 5) rfl; have s6 := hS1.cell (i := 6) rfl; have t6 := hS2.cell (i := 6) rfl; have s7 := hS1.cell (i := 7) rfl; have t7 := hS2.cell (i := 7) rfl; have s8 := hS1.cell (i := 8) rfl; have t8 := hS2.cell (i := 8) rfl; have s9 := hS1.cell (i := 9) rfl; have t9 := hS2.cell (i := 9) rfl; have s10 := hS1.cell (i := 10) rfl; have t10 := hS2.cell (i := 10) rfl; have s11 := hS1.cell (i := 11) rfl; have t11 := hS2.cell (i := 11) rfl; go_simp)
        try simp only [Act.put, List.setIfInBounds_toArray, List.set_cons_zero, List.set_cons_succ]
        refine wpAnyH_take (i := 8) (oi := ({ dst := some 60, op := Op.load 25 (Operand.tmp 3), type := 25, pos := "law.go:54", after := #[{ on := 7, ground := Ground.guard }], guard := some (7, false) })) (v := (.agg #[.int .i64 m0, .int .i64 m1, .int .i64 m2, .int .i64 m3, .int .i64 m4, .int .i64 m5, .int .i64 m6, .int .i64 m7, .int .i64 m8, .int .i64 m9, .int .i64 m10, .int .i64 m11])) rfl (by kernel_rfl) (by kernel_rfl) (by kernel_rfl) (fun _ _ _ h => h) (Or.inl ⟨by rfl, ?_⟩) (by assumption) ?_
        · (intro w hSw; obtain ⟨hS1, hS2⟩ := hSw; have s0 := hS1.cell (i := 0) rfl; have t0 := hS2.cell (i := 0) rfl; have s1 := hS1.cell (i := 1) rfl; have t1 := hS2.cell (i := 1) rfl; have s2 := hS1.cell (i := 2) rfl; have t2 := hS2.cell (i := 2) rfl; have s3 := hS1.cell (i := 3) rfl; have t3 := hS2.cell (i := 3) rfl; have s4 := hS1.cell (i := 4) rfl; have t4 := hS2.cell (i := 4) rfl; have s5 := hS1.cell (i := 5) rfl; have t5 := hS2.cell (i := 5) rfl; have s6 := hS1.cell (i := 6) rfl; have t6 := hS2.cell (i := 6) rfl; have s7 := hS1.cell (i := 7) rfl; have t7 := hS2.cell (i := 7) rfl; have s8 := hS1.cell (i := 8) rfl; have t8 := hS2.cell (i := 8) rfl; have s9 := hS1.cell (i := 9) rfl; have t9 := hS2.cell (i := 9) rfl; have s10 := hS1.cell (i := 10) rfl; have t10 := hS2.cell (i := 10) rfl; have s11 := hS1.cell (i := 11) rfl; have t11 := hS2.cell (i := 11) rfl; go_simp)
        try simp only [Act.put, List.setIfInBounds_toArray, List.set_cons_zero, List.set_cons_succ]
        refine wpAnyH_take (i := 10) (oi := ({ dst := some 62, op := Op.load 25 (Operand.tmp 3), type := 25, pos := "law.go:54", after := #[{ on := 7, ground := Ground.guard }], guard := some (7, false) })) (v := (.agg #[.int .i64 m0, .int .i64 m1, .int .i64 m2, .int .i64 m3, .int .i64 m4, .int .i64 m5, .int .i64 m6, .int .i64 m7, .int .i64 m8, .int .i64 m9, .int .i64 m10, .int .i64 m11])) rfl (by kernel_rfl) (by kernel_rfl) (by kernel_rfl) (fun _ _ _ h => h) (Or.inl ⟨by rfl, ?_⟩) (by assumption) ?_
        · (intro w hSw; obtain ⟨hS1, hS2⟩ := hSw; have s0 := hS1.cell (i := 0) rfl; have t0 := hS2.cell (i := 0) rfl; have s1 := hS1.cell (i := 1) rfl; have t1 := hS2.cell (i := 1) rfl; have s2 := hS1.cell (i := 2) rfl; have t2 := hS2.cell (i := 2) rfl; have s3 := hS1.cell (i := 3) rfl; have t3 := hS2.cell (i := 3) rfl; have s4 := hS1.cell (i := 4) rfl; have t4 := hS2.cell (i := 4) rfl; have s5 := hS1.cell (i := 5) rfl; have t5 := hS2.cell (i := 5) rfl; have s6 := hS1.cell (i := 6) rfl; have t6 := hS2.cell (i := 6) rfl; have s7 := hS1.cell (i := 7) rfl; have t7 := hS2.cell (i := 7) rfl; have s8 := hS1.cell (i := 8) rfl; have t8 := hS2.cell (i := 8) rfl; have s9 := hS1.cell (i := 9) rfl; have t9 := hS2.cell (i := 9) rfl; have s10 := hS1.cell (i := 10) rfl; have t10 := hS2.cell (i := 10) rfl; have s11 := hS1.cell (i := 11) rfl; have t11 := hS2.cell (i := 11) rfl; go_simp)
        try simp only [Act.put, List.setIfInBounds_toArray, List.set_cons_zero, List.set_cons_succ]
        refine wpAnyH_ready (rs := [9]) (by kernel_rfl) (by simp) (AllReadyH.cons (o := ({ dst := some 61, op := Op.call { callee := Callee.value (Operand.func 13), args := #[Operand.tmp 60], argTypes := #[25] }, type := 25, pos := "law.go:54", after := #[{ on := 8, ground := Ground.data }, { on := 7, ground := Ground.chain }, { on := 7, ground := Ground.guard }], guard := some (7, false) })) rfl (fun K hK => ?_) AllReadyH.nil)
        go_simp
        refine (HU.out _).mono ?_
        rintro e w8 ⟨rfl, hb8⟩
        have hl8 : Below w7.heap.size w7 w8 := ⟨hb8.os, hb8.tape, hb8.output, hb8.size, hb8.block⟩
        go_wp2_with fail
        clear hHeld
        refine hK.out _ _ ⟨HM7.out.below hl8 HM7.out.lt, HX7.out.below hl8 HX7.out.lt⟩ (fun hHeld => ?_)
        clear hK K
        try simp only [Act.put, List.setIfInBounds_toArray, List.set_cons_zero, List.set_cons_succ]
        refine wpAnyH_take (i := 11) (oi := ({ dst := some 63, op := Op.binOp BinOp.neq 25 (Operand.tmp 61) (Operand.tmp 62) 25, type := 4, pos := "law.go:54", after := #[{ on := 9, ground := Ground.data }, { on := 10, ground := Ground.data }, { on := 7, ground := Ground.guard }], guard := some (7, false) })) (v := (.bool false)) rfl (by kernel_rfl) (by kernel_rfl) (by kernel_rfl) (fun _ _ _ h => h) (Or.inl ⟨by rfl, ?_⟩) (by assumption) ?_
        · (intro w hSw; obtain ⟨hS1, hS2⟩ := hSw; have s0 := hS1.cell (i := 0) rfl; have t0 := hS2.cell (i := 0) rfl; have s1 := hS1.cell (i := 1) rfl; have t1 := hS2.cell (i := 1) rfl; have s2 := hS1.cell (i := 2) rfl; have t2 := hS2.cell (i := 2) rfl; have s3 := hS1.cell (i := 3) rfl; have t3 := hS2.cell (i := 3) rfl; have s4 := hS1.cell (i := 4) rfl; have t4 := hS2.cell (i := 4) rfl; have s5 := hS1.cell (i := 5) rfl; have t5 := hS2.cell (i := 5) rfl; have s6 := hS1.cell (i := 6) rfl; have t6 := hS2.cell (i := 6) rfl; have s7 := hS1.cell (i := 7) rfl; have t7 := hS2.cell (i := 7) rfl; have s8 := hS1.cell (i := 8) rfl; have t8 := hS2.cell (i := 8) rfl; have s9 := hS1.cell (i := 9) rfl; have t9 := hS2.cell (i := 9) rfl; have s10 := hS1.cell (i := 10) rfl; have t10 := hS2.cell (i := 10) rfl; have s11 := hS1.cell (i := 11) rfl; have t11 := hS2.cell (i := 11) rfl; go_simp)
        try simp only [Act.put, List.setIfInBounds_toArray, List.set_cons_zero, List.set_cons_succ]
        refine wpAnyH_take (i := 12) (oi := ({ dst := some 64, op := Op.pick (Operand.tmp 59) (Operand.const (Value.bool true)) (Operand.tmp 63), type := 4, pos := "law.go:54", after := #[{ on := 7, ground := Ground.data }, { on := 11, ground := Ground.data }], guard := none })) (v := (.bool false)) rfl (by kernel_rfl) (by kernel_rfl) (by kernel_rfl) (fun _ _ _ h => h) (Or.inl ⟨by rfl, ?_⟩) (by assumption) ?_
        · (intro w hSw; obtain ⟨hS1, hS2⟩ := hSw; have s0 := hS1.cell (i := 0) rfl; have t0 := hS2.cell (i := 0) rfl; have s1 := hS1.cell (i := 1) rfl; have t1 := hS2.cell (i := 1) rfl; have s2 := hS1.cell (i := 2) rfl; have t2 := hS2.cell (i := 2) rfl; have s3 := hS1.cell (i := 3) rfl; have t3 := hS2.cell (i := 3) rfl; have s4 := hS1.cell (i := 4) rfl; have t4 := hS2.cell (i := 4) rfl; have s5 := hS1.cell (i := 5) rfl; have t5 := hS2.cell (i := 5) rfl; have s6 := hS1.cell (i := 6) rfl; have t6 := hS2.cell (i := 6) rfl; have s7 := hS1.cell (i := 7) rfl; have t7 := hS2.cell (i := 7) rfl; have s8 := hS1.cell (i := 8) rfl; have t8 := hS2.cell (i := 8) rfl; have s9 := hS1.cell (i := 9) rfl; have t9 := hS2.cell (i := 9) rfl; have s10 := hS1.cell (i := 10) rfl; have t10 := hS2.cell (i := 10) rfl; have s11 := hS1.cell (i := 11) rfl; have t11 := hS2.cell (i := 11) rfl; go_simp)
        try simp only [Act.put, List.setIfInBounds_toArray, List.set_cons_zero, List.set_cons_succ]
        refine wpAnyH_done (by kernel_rfl) ?_ _
        clear hHeld
        have HL8 := Lib.hid (HL7.out.trans (hl8.mono HL7.out.size))
        go_wp2_with fail
        go_meet
        exact HL8.out
      · have hne : (E == 0) = false := by rw [beq_eq_false_iff_ne]; exact hc
        clear hc
        go_wp2_with fail
        go_meet
        exact HL5.out
    case rest =>
      have HLc := Lib.hid hcut
      clear hcut HB5 HL5 HPU HNEQ
      have hG := msg_get s HS.out
      have hxl := getM_length s
      have herr := getM_err s
      have hok := put_getM s
      obtain ⟨X, hX⟩ : ∃ X, (getM s).1 = X := ⟨_, rfl⟩
      obtain ⟨h, hh⟩ : ∃ h, (getM s).2 = h := ⟨_, rfl⟩
      rw [hX] at hG hxl herr hok
      rw [hh] at hG herr hok
      clear hX hh
      by_cases h0 : h = 0
      · subst h0
        obtain ⟨o1, o2, o3⟩ := hok rfl
        have hPut := msg_put X hxl o1
        rw [o3] at hPut
        obtain ⟨x0, x1, x2, x3, x4, x5, x6, x7, x8, x9, x10, x11, rfl⟩ := twelve_of hxl
        have a1 : cellsI [x0, x1, x2, x3, x4, x5, x6, x7, x8, x9, x10, x11] = #[.int .i64 x0, .int .i64 x1, .int .i64 x2, .int .i64 x3, .int .i64 x4, .int .i64 x5, .int .i64 x6, .int .i64 x7, .int .i64 x8, .int .i64 x9, .int .i64 x10, .int .i64 x11] := rfl
        rw [a1] at hG hPut
        clear a1 herr hok o1 o2 o3 hxl
        have HG := Lib.hid hG
        have HPX := Lib.hid hPut
        clear hG hPut
        go_wp2_with fail
        refine (HG.out _ (HL0.out.below HLc.out)).mono ?_
        rintro e w6 ⟨rfl, hb6⟩
        have HL6 := Lib.hid (HLc.out.trans (hb6.mono HLc.out.size))
        clear hb6 HLc
        go_wp2_with (with_reducible refine ev_load rfl 25 (.tmp 13) rfl (w6.heap.size) rfl 25 #[.int .i64 x0, .int .i64 x1, .int .i64 x2, .int .i64 x3, .int .i64 x4, .int .i64 x5, .int .i64 x6, .int .i64 x7, .int .i64 x8, .int .i64 x9, .int .i64 x10, .int .i64 x11] _ (Blk.new w6 _ _) hu rfl (by kernel_rfl) ?_)
        refine (HPX.out _ (HL0.out.below (HL6.out.alloc HL6.out.size _))).mono ?_
        rintro e w7 ⟨rfl, hb7⟩
        have HL7 := Lib.hid ((HL6.out.alloc HL6.out.size (.cells #[.int .i64 x0, .int .i64 x1, .int .i64 x2, .int .i64 x3, .int .i64 x4, .int .i64 x5, .int .i64 x6, .int .i64 x7, .int .i64 x8, .int .i64 x9, .int .i64 x10, .int .i64 x11] 25)).trans (hb7.mono (by have := HL6.out.size; simp; omega)))
        clear hb7 HL6
        go_wp2_with fail
        refine (awake35 _ (HL0.out.below HL7.out)).mono ?_
        rintro e w8 ⟨rfl, hb8⟩
        have HL8 := Lib.hid (HL7.out.trans (hb8.mono HL7.out.size))
        clear hb8
        go_wp2_with fail
        go_ret
        exact ⟨rfl, HL8.out⟩
      · have hne : (h == 0) = false := by rw [beq_eq_false_iff_ne]; exact h0
        have hb0 := herr h0
        subst hb0
        have hq := eql_msg (bare3 0 0 0) (bare3 0 0 0) rfl rfl
        rw [decide_eq_true rfl] at hq
        have a1 : cellsI (bare3 0 0 0) = #[.int .i64 0, .int .i64 0, .int .i64 0, .int .i64 0, .int .i64 0, .int .i64 0, .int .i64 0, .int .i64 0, .int .i64 0, .int .i64 0, .int .i64 0, .int .i64 0] := rfl
        rw [a1] at hG hq
        clear a1 herr hok h0 hxl
        have HG := Lib.hid hG
        clear hG
        go_wp2_with fail
        refine (HG.out _ (HL0.out.below HLc.out)).mono ?_
        rintro e w6 ⟨rfl, hb6⟩
        have HL6 := Lib.hid (HLc.out.trans (hb6.mono HLc.out.size))
        clear hb6 HLc
        go_wp2_with (with_reducible refine ev_load rfl 25 (.tmp 13) rfl (w6.heap.size) rfl 25 #[.int .i64 0, .int .i64 0, .int .i64 0, .int .i64 0, .int .i64 0, .int .i64 0, .int .i64 0, .int .i64 0, .int .i64 0, .int .i64 0, .int .i64 0, .int .i64 0] _ (Blk.new w6 _ _) hu rfl (by kernel_rfl) ?_)
        refine (awake35 _ (HL0.out.below (HL6.out.alloc HL6.out.size _))).mono ?_
        rintro e w7 ⟨rfl, hb7⟩
        have HL7 := Lib.hid ((HL6.out.alloc HL6.out.size _).trans (hb7.mono (by have := HL6.out.size; simp; omega)))
        clear hb7
        go_wp2_with fail
        go_ret
        exact ⟨rfl, HL7.out⟩
end Go.Proofs.YtcibeiehdjekiaaGreatDoor
