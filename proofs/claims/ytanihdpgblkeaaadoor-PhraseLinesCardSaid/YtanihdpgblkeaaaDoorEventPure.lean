/-
  An event without what its kind does not name (reeve's layer 18): the walk.
-/
import Derived.Test.YtanihdpgblkeaaaDoorEventNamed
namespace Go.Proofs.YtanihdpgblkeaaaDoor
open Go.RowKit
set_option linter.unusedVariables false
set_option linter.unusedSimpArgs false

theorem info_event (l : List Int) (h : l.length = 8) : (Tryd.prog.info? 25).map (·.size) = some (cellsI l).size := by
  rw [cellsI_size, h]; kernel_rfl
theorem lay8 (l : List Int) (os : List Nat) (k : Int) : (lay l os (bare k)).length = 8 := by rw [lay_length]; rfl
set_option maxRecDepth 100000 in
set_option maxHeartbeats 1600000 in
theorem event_pure (l : List Int) (hl : l.length = 8) (w : World) :
    Calls Tryd.prog 26 #[.agg (cellsI l)] w fun e w' => e = .returned (.agg (cellsI (pureL l))) ∧ Below w.heap.size w w' := by
  have hu := Tryd.underlying25
  obtain ⟨K, hK⟩ : ∃ K, fld l 0 = K := ⟨_, rfl⟩
  have h0 : (cellsI l)[0]? = some (.int .i64 K) := by rw [← hK]; exact cellsI_at (by omega)
  have hsz : (cellsI l).size = 8 := by rw [cellsI_size, hl]
  have HP : Hid (pureL l = if offs K = [] then bare 0 else lay l (offs K) (bare K)) := Lib.hid (by unfold pureL; rw [hK])
  obtain ⟨PL, hPL⟩ : ∃ PL, pureL l = PL := ⟨_, rfl⟩
  rw [hPL] at HP ⊢
  clear hPL
  have HK := Lib.hid hK
  have HL := Lib.hid hl
  have H0 := Lib.hid h0
  have HSZ := Lib.hid hsz
  clear hK hl hsz h0
  obtain ⟨C, hC⟩ : ∃ C, cellsI l = C := ⟨_, rfl⟩
  rw [hC] at H0 HSZ ⊢
  have HC := Lib.hid hC
  clear hC
  have hc0 : (w.alloc (.cells C 25)).cell? ⟨w.heap.size, 0, none⟩ = some (.int .i64 K) := (Blk.new w C _).cell H0.out
  go_enter Tryd.func26, Tryd.ntmps26
  go_wp2_with fail
  obtain ⟨w1, hw1⟩ : ∃ w1, (w.alloc (.cells C 25)).alloc (.cells (cellsI (bare 0)) 25) = w1 := ⟨_, rfl⟩
  have hb0 : Blk w1 w.heap.size C 25 := by rw [← hw1]; exact (Blk.new w C _).alloc _
  have hb1 : Blk w1 (w.heap.size + 1) (cellsI (bare 0)) 25 := by rw [← hw1]; exact blk_second w _ _ _ _
  have hbw : Below w.heap.size w w1 := by rw [← hw1]; exact ((Below.refl w.heap.size w).alloc (Nat.le_refl _) _).alloc (by simp) _
  have hz1 : w1.heap.size = w.heap.size + 2 := by rw [← hw1]; simp
  show Calls _ _ _ ((w.alloc (.cells C 25)).alloc (.cells (cellsI (bare 0)) 25)) _
  rw [hw1]
  clear hw1 hc0
  refine (event_named w.heap.size K w1 (hb0.cell H0.out)).mono ?_
  rintro e w2 ⟨v1, rfl, hr1, hbb⟩
  have hr1 := hr1
  obtain ⟨p1, c1, rfl⟩ := hr1.len
  rw [ptrs_length] at hr1 ⊢
  have B0 := Lib.hid (hb0.below hbb hb0.lt)
  have B1 := Lib.hid (hb1.below hbb hb1.lt)
  have BW := Lib.hid (hbw.trans (hbb.mono hbw.size))
  have hz2 : w.heap.size + 2 ≤ w2.heap.size := by have := hbb.size; omega
  have R1 := Lib.hid (hr1.mono (show w.heap.size + 2 ≤ w1.heap.size by omega))
  clear hb0 hb1 hbw hz1 hbb hr1
  obtain ⟨n, hn⟩ : ∃ n, (offs K).length = n := ⟨_, rfl⟩
  have hn5 := offs_length K
  rw [hn] at R1 hn5 ⊢
  by_cases h0 : n = 0
  · have he : offs K = [] := List.eq_nil_of_length_eq_zero (hn.trans h0)
    subst h0
    have HP2 : Hid (PL = bare 0) := Lib.hid (by rw [HP.out, if_pos he])
    clear hn he
    go_wp2_with (with_reducible refine ev_store rfl 25 (.tmp 2) (.tmp 11) rfl (w.heap.size + 1) (cellsI (bare 0)) rfl rfl 25 _ B1.out (by kernel_rfl) rfl (cellsI_one _) ?_; intro w3 hb3 hc3 hz3)
    refine bodyPost_ret (res_c rfl _ (w.heap.size + 1) 25 (cellsI (bare 0)) _ rfl hb3 hu rfl (by kernel_rfl)) rfl ⟨by rw [HP2.out], ?_⟩
    exact Chg.belowOf BW.out hc3 (fun k hk => by omega) (by omega)
  · have he : ¬ offs K = [] := fun e => h0 (by rw [← hn, e]; rfl)
    have HP2 : Hid (PL = lay l (offs K) (bare K)) := Lib.hid (by rw [HP.out, if_neg he])
    have HN := Lib.hid hn
    have hn1 : (0 : Int) < (n : Int) := by omega
    have hnz : ((n : Int) == 0) = false := by rw [beq_eq_false_iff_ne]; omega
    clear hn he HP
    have hcell := B0.out.cell H0.out
    go_wp2_with (with_reducible refine ev_store rfl 25 (.tmp 4) (.tmp 14) rfl w2.heap.size (cellsI (bare K)) rfl rfl 25 _ (Blk.new w2 _ _) (by kernel_rfl) rfl (cellsI_one _) ?_; intro w3 hb3 hc3 hz3)
    refine (event_named w2.heap.size K w3 (hb3.cell rfl)).mono ?_
    rintro e w4 ⟨v2, rfl, hr2, hb4⟩
    obtain ⟨p2, c2, rfl⟩ := hr2.len
    rw [ptrs_length, HN.out] at hr2 ⊢
    have hcw : Chg (fun k => k = w2.heap.size) w2 w3 := ((Chg.refl _ w2).alloc _).trans hc3
    have hz3' : w2.heap.size < w3.heap.size := by rw [hz3]; simp
    have hc4 : Chg (fun k => k = w2.heap.size) w2 w4 := hcw.trans ⟨hb4.os, hb4.tape, hb4.output, hb4.size, fun k hk _ => hb4.block k hk⟩
    have X0 := Lib.hid (B0.out.chg hc4 (by omega))
    have X1 := Lib.hid (B1.out.chg hc4 (by omega))
    have XG := Lib.hid (hb3.below hb4 hz3')
    have R1' := Lib.hid (R1.out.chg hc4 (fun b _ h => by omega))
    have R1n := Lib.hid (R1.out)
    have R2 := Lib.hid hr2
    have C4 := Lib.hid hc4
    have Z3 := Lib.hid hz3'
    have hz4 : w3.heap.size ≤ w4.heap.size := hb4.size
    clear hb3 hc3 hz3 hr2 hb4 hcw hc4 hz3' B0 B1 hcell hr1 R1
    go_wp2_with fail
    go_loopg [17] n (fun gg s17 wr => ∃ i : Nat, i ≤ n ∧ gg = n - i ∧ s17 = .int .i64 i ∧ Hid (Blk wr w2.heap.size (cellsI (lay l ((offs K).take i) (bare K))) 25) ∧ Hid (Chg (fun k => k = w2.heap.size) w4 wr))
    case atStart => exact ⟨0, by omega, rfl, rfl, XG, Lib.hid (Chg.refl _ _)⟩
    case round =>
      clear XG
      obtain ⟨i, hi, hg, rfl, HX, HC4⟩ := hrel
      have hg := hg.symm
      subst hg
      by_cases hlt : i < n
      · have hio : i < (offs K).length := by rw [HN.out]; exact hlt
        obtain ⟨b1, o1, q1, e1, hB1, hL1, k1⟩ := R1'.out.at (j := i) (by rw [ptrs_length]; exact hio)
        have hL1 : b1 < w2.heap.size := by
          obtain ⟨b1', o1', q1', e1', _, hL1', _⟩ := R1n.out.at (j := i) (by rw [ptrs_length]; exact hio)
          rw [e1] at e1'
          injection e1' with h1 h2 h3
          injection h1 with h1
          injection h1 with h1
          omega
        rw [ptrs_length, HN.out] at e1
        cases e1
        obtain ⟨b2, o2, q2, e2, hB2, hL2, k2⟩ := R2.out.at (j := i) (by rw [ptrs_length]; exact hio)
        rw [ptrs_length, HN.out] at e2
        cases e2
        rw [ptrs_at _ _ _ hio] at k1 k2
        have ho := offs_lt K _ (List.getElem_mem hio)
        have HLT := Lib.hid (lay_take l (offs K) i hio (bare K))
        obtain ⟨o, hoo⟩ : ∃ o, (offs K)[i] = o := ⟨_, rfl⟩
        rw [hoo] at k1 k2 ho HLT
        clear hoo
        have z3 := Z3.out
        have k1 := (HC4.out.cell (p := ⟨b1, o1 + i, none⟩) (by show b1 < _; omega) (by show ¬ b1 = _; omega)).trans k1
        have k2 := (HC4.out.cell (p := ⟨b2, o2 + i, none⟩) (by show b2 < _; omega) (by show ¬ b2 = _; omega)).trans k2
        have hCo : C[o]? = some (.int .i64 (fld l o)) := by rw [← HC.out]; exact cellsI_at (by rw [HL.out]; omega)
        have k3 := (X0.out.chg HC4.out (by omega)).cell hCo
        have k4 := HX.out.cell (cellsI_at (l := lay l ((offs K).take i) (bare K)) (i := o) (by rw [lay8]; omega))
        have k5 := HX.out.free o
        have hiI : (i : Int) < (n : Int) := by omega
        have hi0 : (0 : Int) ≤ (i : Int) := by omega
        clear ho hCo z3
        go_wp2_with fail
        go_roundg (n - (i + 1))
        case measure => omega
        case rel =>
          refine ⟨i + 1, by omega, rfl, by go_num, Lib.hid ?_, Lib.hid (HC4.out.set (by rfl) _)⟩
          rw [HLT.out, ← cellsI_set]
          exact HX.out.set o _
      · obtain rfl : i = n := by omega
        go_wp2_with (first
          | (with_reducible refine ev_load rfl 25 (.tmp 4) rfl w2.heap.size rfl 25 (cellsI (lay l ((offs K).take i) (bare K))) _ HX.out hu rfl (info_event _ (lay8 _ _ _)) ?_)
          | (with_reducible refine ev_store rfl 25 (.tmp 2) (.tmp 31) rfl (w.heap.size + 1) (cellsI (lay l ((offs K).take i) (bare K))) rfl rfl 25 _ (X1.out.chg HC4.out (by omega)) (info_event _ (lay8 _ _ _)) (by simp [cellsI_size, lay8, bare_length]) (cellsI_one _) ?_; intro w5 hb5 hc5 hz5))
        refine bodyPost_ret (res_c rfl _ (w.heap.size + 1) 25 (cellsI (lay l ((offs K).take i) (bare K))) _ rfl hb5 hu rfl (info_event _ (lay8 _ _ _))) rfl ⟨by rw [HP2.out, List.take_of_length_le (by rw [HN.out]; omega)], ?_⟩
        have b1 := Chg.belowOf BW.out (C4.out.trans HC4.out) (fun k hk => by omega) (by omega)
        exact Chg.belowOf b1 hc5 (fun k hk => by omega) b1.size
end Go.Proofs.YtanihdpgblkeaaaDoor
