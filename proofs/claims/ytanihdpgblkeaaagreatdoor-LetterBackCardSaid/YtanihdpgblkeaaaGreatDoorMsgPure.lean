/-
  A message without what its kind does not name (reeve's layer 35): the walk.
-/
import Derived.Test.YtanihdpgblkeaaaGreatDoorMsgNamed
namespace Go.Proofs.YtanihdpgblkeaaaGreatDoor
open Go.RowKit
set_option linter.unusedVariables false
set_option linter.unusedSimpArgs false

set_option maxRecDepth 100000 in
set_option maxHeartbeats 1600000 in
theorem msg_pure (l : List Int) (hl : l.length = 12) (w : World) :
    Calls Tryz.prog 69 #[.agg (cellsI l)] w fun e w' => e = .returned (.agg (cellsI (pureM l))) ∧ Below w.heap.size w w' := by
  have hu := Tryz.underlying25
  obtain ⟨K, hK⟩ : ∃ K, fld l 0 = K := ⟨_, rfl⟩
  have h0 : (cellsI l)[0]? = some (.int .i64 K) := by rw [← hK]; exact cellsI_at (by omega)
  obtain ⟨F, hF⟩ : ∃ F, fld l 1 = F := ⟨_, rfl⟩
  obtain ⟨T, hT⟩ : ∃ T, fld l 2 = T := ⟨_, rfl⟩
  have h1 : (cellsI l)[1]? = some (.int .i64 F) := by rw [← hF]; exact cellsI_at (by omega)
  have h2 : (cellsI l)[2]? = some (.int .i64 T) := by rw [← hT]; exact cellsI_at (by omega)
  have hsz : (cellsI l).size = 12 := by rw [cellsI_size, hl]
  have HP : Hid (pureM l = if offsM K = [] then bare3 0 0 0 else lay l (offsM K) (bare3 K F T)) := Lib.hid (by unfold pureM; rw [hK, hF, hT])
  obtain ⟨PL, hPL⟩ : ∃ PL, pureM l = PL := ⟨_, rfl⟩
  rw [hPL] at HP ⊢
  clear hPL
  have HK := Lib.hid hK
  have HL := Lib.hid hl
  have H0 := Lib.hid h0
  have H1 := Lib.hid h1
  have H2 := Lib.hid h2
  have HSZ := Lib.hid hsz
  clear hK hF hT hl hsz h0 h1 h2
  obtain ⟨C, hC⟩ : ∃ C, cellsI l = C := ⟨_, rfl⟩
  rw [hC] at H0 H1 H2 HSZ ⊢
  have HC := Lib.hid hC
  clear hC
  have hc0 : (w.alloc (.cells C 25)).cell? ⟨w.heap.size, 0, none⟩ = some (.int .i64 K) := (Blk.new w C _).cell H0.out
  go_enter Tryz.func69, Tryz.ntmps69
  go_wp2_with fail
  obtain ⟨w1, hw1⟩ : ∃ w1, (w.alloc (.cells C 25)).alloc (.cells (cellsI (bare3 0 0 0)) 25) = w1 := ⟨_, rfl⟩
  have hb0 : Blk w1 w.heap.size C 25 := by rw [← hw1]; exact (Blk.new w C _).alloc _
  have hb1 : Blk w1 (w.heap.size + 1) (cellsI (bare3 0 0 0)) 25 := by rw [← hw1]; exact blk_second w _ _ _ _
  have hbw : Below w.heap.size w w1 := by rw [← hw1]; exact ((Below.refl w.heap.size w).alloc (Nat.le_refl _) _).alloc (by simp) _
  have hz1 : w1.heap.size = w.heap.size + 2 := by rw [← hw1]; simp
  show Calls _ _ _ ((w.alloc (.cells C 25)).alloc (.cells (cellsI (bare3 0 0 0)) 25)) _
  rw [hw1]
  clear hw1 hc0
  refine (msg_named w.heap.size K w1 (hb0.cell H0.out)).mono ?_
  rintro e w2 ⟨v1, rfl, hr1, hbb⟩
  have hr1 := hr1
  obtain ⟨p1, c1, rfl⟩ := hr1.len
  rw [ptrs_length] at hr1 ⊢
  have B0 := Lib.hid (hb0.below hbb hb0.lt)
  have B1 := Lib.hid (hb1.below hbb hb1.lt)
  have BW := Lib.hid (hbw.trans (hbb.mono hbw.size))
  have hz2 : w.heap.size + 2 ≤ w2.heap.size := by have := hbb.size; omega
  have R1 := Lib.hid (hr1.mono (show w.heap.size + 2 ≤ w1.heap.size by omega))
  clear hb0 hb1 hbw hz1 hbb hr1
  obtain ⟨n, hn⟩ : ∃ n, (offsM K).length = n := ⟨_, rfl⟩
  have hn5 := offsM_length K
  rw [hn] at R1 hn5 ⊢
  by_cases h0 : n = 0
  · have he : offsM K = [] := List.eq_nil_of_length_eq_zero (hn.trans h0)
    subst h0
    have HP2 : Hid (PL = bare3 0 0 0) := Lib.hid (by rw [HP.out, if_pos he])
    clear hn he
    go_wp2_with (with_reducible refine ev_store rfl 25 (.tmp 2) (.tmp 11) rfl (w.heap.size + 1) (cellsI (bare3 0 0 0)) rfl rfl 25 _ B1.out (by kernel_rfl) rfl (cellsI_one _) ?_; intro w3 hb3 hc3 hz3)
    refine bodyPost_ret (res_c rfl _ (w.heap.size + 1) 25 (cellsI (bare3 0 0 0)) _ rfl hb3 hu rfl (by kernel_rfl)) rfl ⟨by rw [HP2.out], ?_⟩
    exact Chg.belowOf BW.out hc3 (fun k hk => by omega) (by omega)
  · have he : ¬ offsM K = [] := fun e => h0 (by rw [← hn, e]; rfl)
    have HP2 : Hid (PL = lay l (offsM K) (bare3 K F T)) := Lib.hid (by rw [HP.out, if_neg he])
    have HN := Lib.hid hn
    have hn1 : (0 : Int) < (n : Int) := by omega
    have hnz : ((n : Int) == 0) = false := by rw [beq_eq_false_iff_ne]; omega
    clear hn he HP
    have hcell := B0.out.cell H0.out
    have hcell1 := B0.out.cell H1.out
    have hcell2 := B0.out.cell H2.out
    go_wp2_with (with_reducible refine ev_store rfl 25 (.tmp 4) (.tmp 18) rfl w2.heap.size (cellsI (bare3 K F T)) rfl rfl 25 _ (Blk.new w2 _ _) (by kernel_rfl) rfl (cellsI_one _) ?_; intro w3 hb3 hc3 hz3)
    refine (msg_named w2.heap.size K w3 (hb3.cell rfl)).mono ?_
    rintro e w4 ⟨v2, rfl, hr2, hb4⟩
    obtain ⟨p2, c2, rfl⟩ := hr2.len
    rw [ptrs_length, HN.out] at hr2 ⊢
    have hcw : Chg (fun k => k = w2.heap.size) w2 w3 := ((Chg.refl _ w2).alloc _).trans hc3
    have hz3' : w2.heap.size < w3.heap.size := by rw [hz3]; simp
    have hc4 : Chg (fun k => k = w2.heap.size) w2 w4 := hcw.trans ⟨hb4.os, hb4.tape, hb4.output, hb4.size, fun k hk _ => hb4.block k hk⟩
    have X0 := Lib.hid (B0.out.chg hc4 (by omega))
    have X1 := Lib.hid (B1.out.chg hc4 (by omega))
    have XG := Lib.hid (hb3.below hb4 hz3')
    have R1' := Lib.hid (R1.out.chg hc4 (fun b _ h => by omega))
    have R1n := Lib.hid (R1.out)
    have R2 := Lib.hid hr2
    have C4 := Lib.hid hc4
    have Z3 := Lib.hid hz3'
    have hz4 : w3.heap.size ≤ w4.heap.size := hb4.size
    clear hb3 hc3 hz3 hr2 hb4 hcw hc4 hz3' B0 B1 hcell hcell1 hcell2 hr1 R1
    go_wp2_with fail
    go_loopg [21] n (fun gg s17 wr => ∃ i : Nat, i ≤ n ∧ gg = n - i ∧ s17 = .int .i64 i ∧ Hid (Blk wr w2.heap.size (cellsI (lay l ((offsM K).take i) (bare3 K F T))) 25) ∧ Hid (Chg (fun k => k = w2.heap.size) w4 wr))
    case atStart => exact ⟨0, by omega, rfl, rfl, XG, Lib.hid (Chg.refl _ _)⟩
    case round =>
      clear XG
      obtain ⟨i, hi, hg, rfl, HX, HC4⟩ := hrel
      have hg := hg.symm
      subst hg
      by_cases hlt : i < n
      · have hio : i < (offsM K).length := by rw [HN.out]; exact hlt
        obtain ⟨b1, o1, q1, e1, hB1, hL1, k1⟩ := R1'.out.at (j := i) (by rw [ptrs_length]; exact hio)
        have hL1 : b1 < w2.heap.size := by
          obtain ⟨b1', o1', q1', e1', _, hL1', _⟩ := R1n.out.at (j := i) (by rw [ptrs_length]; exact hio)
          rw [e1] at e1'
          injection e1' with h1 h2 h3
          injection h1 with h1
          injection h1 with h1
          omega
        rw [ptrs_length, HN.out] at e1
        cases e1
        obtain ⟨b2, o2, q2, e2, hB2, hL2, k2⟩ := R2.out.at (j := i) (by rw [ptrs_length]; exact hio)
        rw [ptrs_length, HN.out] at e2
        cases e2
        rw [ptrs_at _ _ _ hio] at k1 k2
        have ho := offsM_lt K _ (List.getElem_mem hio)
        have HLT := Lib.hid (lay_take l (offsM K) i hio (bare3 K F T))
        obtain ⟨o, hoo⟩ : ∃ o, (offsM K)[i] = o := ⟨_, rfl⟩
        rw [hoo] at k1 k2 ho HLT
        clear hoo
        have z3 := Z3.out
        have k1 := (HC4.out.cell (p := ⟨b1, o1 + i, none⟩) (by show b1 < _; omega) (by show ¬ b1 = _; omega)).trans k1
        have k2 := (HC4.out.cell (p := ⟨b2, o2 + i, none⟩) (by show b2 < _; omega) (by show ¬ b2 = _; omega)).trans k2
        have hCo : C[o]? = some (.int .i64 (fld l o)) := by rw [← HC.out]; exact cellsI_at (by rw [HL.out]; omega)
        have k3 := (X0.out.chg HC4.out (by omega)).cell hCo
        have k4 := HX.out.cell (cellsI_at (l := lay l ((offsM K).take i) (bare3 K F T)) (i := o) (by rw [layM12]; omega))
        have k5 := HX.out.free o
        have hiI : (i : Int) < (n : Int) := by omega
        have hi0 : (0 : Int) ≤ (i : Int) := by omega
        clear ho hCo z3
        go_wp2_with fail
        go_roundg (n - (i + 1))
        case measure => omega
        case rel =>
          refine ⟨i + 1, by omega, rfl, by go_num, Lib.hid ?_, Lib.hid (HC4.out.set (by rfl) _)⟩
          rw [HLT.out, ← cellsI_set]
          exact HX.out.set o _
      · obtain rfl : i = n := by omega
        go_wp2_with (first
          | (with_reducible refine ev_load rfl 25 (.tmp 4) rfl w2.heap.size rfl 25 (cellsI (lay l ((offsM K).take i) (bare3 K F T))) _ HX.out hu rfl (info_msg _ (layM12 _ _ _ _ _)) ?_)
          | (with_reducible refine ev_store rfl 25 (.tmp 2) (.tmp 35) rfl (w.heap.size + 1) (cellsI (lay l ((offsM K).take i) (bare3 K F T))) rfl rfl 25 _ (X1.out.chg HC4.out (by omega)) (info_msg _ (layM12 _ _ _ _ _)) (by simp [cellsI_size, layM12, bare3_length]) (cellsI_one _) ?_; intro w5 hb5 hc5 hz5))
        refine bodyPost_ret (res_c rfl _ (w.heap.size + 1) 25 (cellsI (lay l ((offsM K).take i) (bare3 K F T))) _ rfl hb5 hu rfl (info_msg _ (layM12 _ _ _ _ _))) rfl ⟨by rw [HP2.out, List.take_of_length_le (by rw [HN.out]; omega)], ?_⟩
        have b1 := Chg.belowOf BW.out (C4.out.trans HC4.out) (fun k hk => by omega) (by omega)
        exact Chg.belowOf b1 hc5 (fun k hk => by omega) b1.size
end Go.Proofs.YtanihdpgblkeaaaGreatDoor
