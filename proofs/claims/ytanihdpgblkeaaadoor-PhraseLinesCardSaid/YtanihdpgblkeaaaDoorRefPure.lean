/-
  What is pure of an event (the reference of reeve's layer 18): the walk.
-/
import Derived.Test.YtanihdpgblkeaaaDoorRefMade
namespace Go.Proofs.YtanihdpgblkeaaaDoor
open Go.RowKit
set_option linter.unusedVariables false
set_option linter.unusedSimpArgs false

theorem str_inj_p {a b : List UInt8} (h : str a = str b) : a = b := by
  have := congrArg (fun x : ByteArray => x.data.toList) h
  simpa [str] using this
theorem str_empty_ne {s : ByteArray} (h : s ≠ ⟨#[]⟩) : s.toList.isEmpty = false := by
  rw [ByteArray.toList_eq]
  cases hl : s.data.toList with
  | nil => exact absurd (by apply ByteArray.ext; apply Array.ext'; exact hl) h
  | cons a r => rfl
theorem blk_set8 {w : World} {g : Nat} {a b c d e f h i : Value} {t : TypeId} (hB : Blk w g #[a, b, c, d, e, f, h, i] t) (a' b' c' d' e' f' h' i' : Value) :
    Blk ((((((((w.setCell ⟨g, 0, none⟩ a').setCell ⟨g, 1, none⟩ b').setCell ⟨g, 2, none⟩ c').setCell ⟨g, 3, none⟩ d').setCell ⟨g, 4, none⟩ e').setCell ⟨g, 5, none⟩ f').setCell ⟨g, 6, none⟩ h').setCell ⟨g, 7, none⟩ i') g #[a', b', c', d', e', f', h', i'] t := by
  have h1 := (((((((hB.set 0 a').set 1 b').set 2 c').set 3 d').set 4 e').set 5 f').set 6 h').set 7 i'
  have e : ((((((((#[a, b, c, d, e, f, h, i] : Array Value).setIfInBounds 0 a').setIfInBounds 1 b').setIfInBounds 2 c').setIfInBounds 3 d').setIfInBounds 4 e').setIfInBounds 5 f').setIfInBounds 6 h').setIfInBounds 7 i' = #[a', b', c', d', e', f', h', i'] := by simp
  rw [e] at h1
  exact h1
theorem below_set8 {B : Nat} {w0 w : World} {g : Nat} (hb : Below B w0 w) (hg : B ≤ g) (a' b' c' d' e' f' h' i' : Value) :
    Below B w0 ((((((((w.setCell ⟨g, 0, none⟩ a').setCell ⟨g, 1, none⟩ b').setCell ⟨g, 2, none⟩ c').setCell ⟨g, 3, none⟩ d').setCell ⟨g, 4, none⟩ e').setCell ⟨g, 5, none⟩ f').setCell ⟨g, 6, none⟩ h').setCell ⟨g, 7, none⟩ i') :=
  (((((((hb.setCell (p := ⟨g, 0, none⟩) hg a').setCell (p := ⟨g, 1, none⟩) hg b').setCell (p := ⟨g, 2, none⟩) hg c').setCell (p := ⟨g, 3, none⟩) hg d').setCell (p := ⟨g, 4, none⟩) hg e').setCell (p := ⟨g, 5, none⟩) hg f').setCell (p := ⟨g, 6, none⟩) hg h').setCell (p := ⟨g, 7, none⟩) hg i'
theorem made_pure (l : List Int) (h : offs (fld l 0) ≠ []) : layZ (offs (fld l 0)) (numsL l) (bare (fld l 0)) = pureL l := by
  unfold numsL pureL
  rw [if_neg h, layZ_map]
set_option maxRecDepth 100000 in
set_option maxHeartbeats 3200000 in
theorem ref18_pure (l : List Int) (hl : l.length = 8) (w : World) :
    Calls Tryd.prog 33 #[.agg (cellsI l)] w fun e w' => e = .returned (.agg (cellsI (pureL l))) ∧ Below w.heap.size w w' := by
  have hu := Tryd.underlying25
  have hN := ref18_numbers l hl
  obtain ⟨K, hK⟩ : ∃ K, fld l 0 = K := ⟨_, rfl⟩
  have hM := fun (h : offs K ≠ []) => ref18_made K (numsL l) (by unfold numsL; rw [List.length_map, hK])
  have hP : offs K ≠ [] → layZ (offs K) (numsL l) (bare K) = pureL l := by rw [← hK]; exact made_pure l
  have hP0 : offs K = [] → pureL l = bare 0 := by intro h; unfold pureL; rw [hK, if_pos h]
  obtain ⟨p0, p1, p2, p3, p4, p5, p6, p7, hpl⟩ := eight_of (pureL_length l)
  rw [hpl] at hP hP0 ⊢
  clear hpl
  generalize numsL l = ns at hN hM hP
  obtain ⟨k, n, j, i, p, x, y, z, rfl⟩ := eight_of hl
  have hk : K = k := hK.symm
  subst hk
  clear hl hK
  have hcell : cellsI [K, n, j, i, p, x, y, z] = #[.int .i64 K, .int .i64 n, .int .i64 j, .int .i64 i, .int .i64 p, .int .i64 x, .int .i64 y, .int .i64 z] := rfl
  have hpc : cellsI [p0, p1, p2, p3, p4, p5, p6, p7] = #[.int .i64 p0, .int .i64 p1, .int .i64 p2, .int .i64 p3, .int .i64 p4, .int .i64 p5, .int .i64 p6, .int .i64 p7] := rfl
  rw [hcell] at hN ⊢
  rw [hpc]
  clear hcell
  obtain ⟨W, hW⟩ : ∃ W, (w.alloc (.cells #[.int .i64 K, .int .i64 n, .int .i64 j, .int .i64 i, .int .i64 p, .int .i64 x, .int .i64 y, .int .i64 z] 25)).alloc (.cells (cellsI (bare 0)) 25) = W := ⟨_, rfl⟩
  have HB : Hid (Blk W w.heap.size #[.int .i64 K, .int .i64 n, .int .i64 j, .int .i64 i, .int .i64 p, .int .i64 x, .int .i64 y, .int .i64 z] 25) := Lib.hid (by rw [← hW]; exact (Blk.new w _ _).alloc _)
  have HA : Hid (Blk W (w.heap.size + 1) (cellsI (bare 0)) 25) := Lib.hid (by rw [← hW]; exact blk_second w _ _ _ _)
  have HL : Hid (Below w.heap.size w W) := Lib.hid (by rw [← hW]; exact ((Below.refl w.heap.size w).alloc (Nat.le_refl _) _).alloc (by simp) _)
  have hWz : w.heap.size + 1 < W.heap.size := HA.out.lt
  have HW : Hid ((w.alloc (.cells #[.int .i64 K, .int .i64 n, .int .i64 j, .int .i64 i, .int .i64 p, .int .i64 x, .int .i64 y, .int .i64 z] 25)).alloc (.cells #[.int .i64 0, .int .i64 0, .int .i64 0, .int .i64 0, .int .i64 0, .int .i64 0, .int .i64 0, .int .i64 0] 25) = W) := Lib.hid hW
  have HN := Lib.hid hN
  have HM := Lib.hid hM
  have HP := Lib.hid hP
  have HP0 := Lib.hid hP0
  have HPC := Lib.hid hpc
  clear hW hN hM hP hP0 hpc
  have c0 := HB.out.cell (i := 0) rfl
  go_enter Tryd.func33, Tryd.ntmps33
  go_upto_region 1 with fail
  rw [HW.out]
  clear HW
  go_wp2_with fail
  refine (ref18_names K W).mono ?_
  rintro e w1 ⟨rfl, hb1⟩
  have HB1 := Lib.hid (HB.out.below hb1 (by omega))
  have HA1 := Lib.hid (HA.out.below hb1 (by omega))
  have HL1 := Lib.hid (HL.out.trans (hb1.mono HL.out.size))
  have hz1 : W.heap.size ≤ w1.heap.size := hb1.size
  clear hb1 c0 HB HA HL
  by_cases h0 : offs K = []
  · have hn0 : nm K = [] := (nm_nil K).2 h0
    rw [hn0]
    have hp0 := HP0.out h0
    have HPC0 : Hid (#[.int .i64 p0, .int .i64 p1, .int .i64 p2, .int .i64 p3, .int .i64 p4, .int .i64 p5, .int .i64 p6, .int .i64 p7] = cellsI (bare 0)) := Lib.hid (by rw [← HPC.out, hp0])
    clear h0 hn0 hp0
    have hstr : str [] = ⟨#[]⟩ := rfl
    rw [hstr]
    clear hstr
    go_wp2_with (with_reducible refine ev_store rfl 25 (.tmp 2) (.tmp 7) rfl (w.heap.size + 1) (cellsI (bare 0)) rfl rfl 25 _ HA1.out (by kernel_rfl) rfl (cellsI_one _) ?_; intro w9 hb9 hc9 hz9)
    refine bodyPost_ret (res_c rfl _ (w.heap.size + 1) 25 (cellsI (bare 0)) _ rfl hb9 hu rfl (by kernel_rfl)) rfl ⟨by rw [HPC0.out], ?_⟩
    exact Chg.belowOf HL1.out hc9 (fun k hk => by omega) HL1.out.size
  · have hne : (str (nm K)).toList.isEmpty = false := str_empty_ne (fun e => h0 ((nm_nil K).1 (str_inj_p (e.trans rfl : str (nm K) = str []))))
    have HMK : Hid (∀ v (wx : World), RowV 0 wx v (ns.map (Value.int .i64)) → Calls Tryd.prog 24 #[.int .i64 K, v] wx fun e w' => e = .returned (.agg #[.int .i64 p0, .int .i64 p1, .int .i64 p2, .int .i64 p3, .int .i64 p4, .int .i64 p5, .int .i64 p6, .int .i64 p7]) ∧ Below wx.heap.size wx w') := Lib.hid (fun v wx hv => by have := HM.out h0 v wx hv; rw [HP.out h0, HPC.out] at this; exact this)
    generalize str (nm K) = S at hne ⊢
    have d0 := HB1.out.cell (i := 0) rfl
    have d1 := HB1.out.cell (i := 1) rfl
    have d2 := HB1.out.cell (i := 2) rfl
    have d3 := HB1.out.cell (i := 3) rfl
    have d4 := HB1.out.cell (i := 4) rfl
    have d5 := HB1.out.cell (i := 5) rfl
    have d6 := HB1.out.cell (i := 6) rfl
    have d7 := HB1.out.cell (i := 7) rfl
    have hlt : w.heap.size < w1.heap.size := by omega
    have HD := Lib.hid (fun (wx : World) (hb : Below w1.heap.size w1 wx) => show wx.cell? ⟨w.heap.size, 0, none⟩ = some (.int .i64 K) ∧ wx.cell? ⟨w.heap.size, 1, none⟩ = some (.int .i64 n) ∧ wx.cell? ⟨w.heap.size, 2, none⟩ = some (.int .i64 j) ∧ wx.cell? ⟨w.heap.size, 3, none⟩ = some (.int .i64 i) ∧ wx.cell? ⟨w.heap.size, 4, none⟩ = some (.int .i64 p) ∧ wx.cell? ⟨w.heap.size, 5, none⟩ = some (.int .i64 x) ∧ wx.cell? ⟨w.heap.size, 6, none⟩ = some (.int .i64 y) ∧ wx.cell? ⟨w.heap.size, 7, none⟩ = some (.int .i64 z) from ⟨keepB hb d0 hlt, keepB hb d1 hlt, keepB hb d2 hlt, keepB hb d3 hlt, keepB hb d4 hlt, keepB hb d5 hlt, keepB hb d6 hlt, keepB hb d7 hlt⟩)
    clear h0 HP HP0 HM
    go_upto_region 3 with fail
    go_cut [] (fun wx => Blk wx (w.heap.size + 1) #[.int .i64 p0, .int .i64 p1, .int .i64 p2, .int .i64 p3, .int .i64 p4, .int .i64 p5, .int .i64 p6, .int .i64 p7] 25 ∧ Below w.heap.size w wx)
    case first =>
      go_region_with (first
        | (go_at_call 49; refine (HN.out _).mono ?_; rintro e w4 ⟨v4, rfl, ho4, hb4⟩; have hb4 : Below w1.heap.size w1 w4 := ⟨hb4.os, hb4.tape, hb4.output, hb4.size, hb4.block⟩; obtain ⟨e0, e1, e2, e3, e4, e5, e6, e7⟩ := HD.out w4 hb4; have hr4 := ho4.row.mono (Nat.zero_le _))
        | (go_at_call 24; refine (HMK.out _ _ (by exact hr4)).mono ?_; rintro e w5 ⟨rfl, hb5⟩; have hb5 : Below w1.heap.size w1 w5 := hb4.trans (Below.mono ⟨hb5.os, hb5.tape, hb5.output, hb5.size, hb5.block⟩ hb4.size); have hA5 := HA1.out.below hb5 (by omega); have q0 := hA5.cell (i := 0) rfl; have q1 := hA5.cell (i := 1) rfl; have q2 := hA5.cell (i := 2) rfl; have q3 := hA5.cell (i := 3) rfl; have q4 := hA5.cell (i := 4) rfl; have q5 := hA5.cell (i := 5) rfl; have q6 := hA5.cell (i := 6) rfl; have q7 := hA5.cell (i := 7) rfl; have qf := hA5.free))
      all_goals
        have hA5' : Blk w5 (w.heap.size + 1) #[.int .i64 0, .int .i64 0, .int .i64 0, .int .i64 0, .int .i64 0, .int .i64 0, .int .i64 0, .int .i64 0] 25 := hA5
        have HBS := Lib.hid (blk_set8 hA5' (.int .i64 p0) (.int .i64 p1) (.int .i64 p2) (.int .i64 p3) (.int .i64 p4) (.int .i64 p5) (.int .i64 p6) (.int .i64 p7))
        have HLS := Lib.hid (below_set8 (HL1.out.trans (hb5.mono HL1.out.size)) (show w.heap.size ≤ w.heap.size + 1 by omega) (.int .i64 p0) (.int .i64 p1) (.int .i64 p2) (.int .i64 p3) (.int .i64 p4) (.int .i64 p5) (.int .i64 p6) (.int .i64 p7))
        clear hA5' hA5 q0 q1 q2 q3 q4 q5 q6 q7 qf
        go_wp2_with fail
        go_meet
        exact ⟨HBS.out, HLS.out⟩
    case rest =>
      obtain ⟨hb9, hl9⟩ := hcut
      have HB9 := Lib.hid hb9
      have HL9 := Lib.hid hl9
      clear hb9 hl9
      go_wp2_with fail
      refine bodyPost_ret (res_c rfl _ (w.heap.size + 1) 25 #[.int .i64 p0, .int .i64 p1, .int .i64 p2, .int .i64 p3, .int .i64 p4, .int .i64 p5, .int .i64 p6, .int .i64 p7] _ rfl HB9.out hu rfl (by kernel_rfl)) rfl ⟨rfl, HL9.out⟩
end Go.Proofs.YtanihdpgblkeaaaDoor
