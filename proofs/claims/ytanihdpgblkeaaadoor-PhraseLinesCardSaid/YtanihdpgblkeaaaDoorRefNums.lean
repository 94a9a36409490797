/-
  The reference's numbers of an event (reeve's layer 18): the walk.
-/
import Derived.Test.YtanihdpgblkeaaaDoorRef18
namespace Go.Proofs.YtanihdpgblkeaaaDoor
open Go.RowKit
set_option linter.unusedVariables false
set_option linter.unusedSimpArgs false

/-- The numbers that an event's kind names. -/
def numsL (l : List Int) : List Int := (offs (fld l 0)).map (fld l)
theorem part_le (k : Int) (i : Nat) : (((nm k).take i).flatMap ch).length ≤ 5 := by
  have h := offs_length k
  rw [← nm_offs, ← List.take_append_drop i (nm k), List.flatMap_append, List.length_append] at h
  omega
theorem part_succ (l : List Int) (k : Int) (i : Nat) (c : UInt8) (h : (nm k)[i]? = some c) : (((nm k).take (i + 1)).flatMap ch).map (fld l) = (((nm k).take i).flatMap ch).map (fld l) ++ (ch c).map (fld l) := by
  obtain ⟨hi, e⟩ := List.getElem?_eq_some_iff.1 h
  rw [List.take_succ_eq_append_getElem hi, List.flatMap_append, List.map_append, e]
  simp
set_option maxRecDepth 100000 in
set_option maxHeartbeats 1600000 in
theorem ref18_numbers (l : List Int) (hl : l.length = 8) (w : World) :
    Calls Tryd.prog 49 #[.agg (cellsI l)] w fun e w' => ∃ v, e = .returned v ∧ OwnI w.heap.size w' v (numsL l) ∧ Below w.heap.size w w' := by
  obtain ⟨K, hK⟩ : ∃ K, fld l 0 = K := ⟨_, rfl⟩
  have HCC := Lib.hid (fun i (h : i < 8) => show (cellsI l)[i]? = some (.int .i64 (fld l i)) from cellsI_at (by omega))
  have HF : Hid (numsL l = ((nm K).flatMap ch).map (fld l)) := Lib.hid (by unfold numsL; rw [nm_offs, hK])
  have HK := Lib.hid hK
  clear hK
  obtain ⟨C, hC⟩ : ∃ C, cellsI l = C := ⟨_, rfl⟩
  rw [hC] at HCC ⊢
  clear hC
  obtain ⟨W, hW⟩ : ∃ W, w.alloc (.cells C 25) = W := ⟨_, rfl⟩
  have hB : Blk W w.heap.size C 25 := by rw [← hW]; exact Blk.new w C _
  have hWs : W.heap.size = w.heap.size + 1 := by rw [← hW]; simp
  have HBL : Hid (Below w.heap.size w W) := Lib.hid (by rw [← hW]; exact (Below.refl w.heap.size w).alloc (Nat.le_refl _) _)
  have HB := Lib.hid hB
  have HWS := Lib.hid hWs
  have HW := Lib.hid hW
  clear hB hWs hW
  have hc0 : W.cell? ⟨w.heap.size, 0, none⟩ = some (.int .i64 K) := HB.out.cell (by rw [← HK.out]; exact HCC.out 0 (by omega))
  go_enter Tryd.func49, Tryd.ntmps49
  go_upto_region 1 with fail
  rw [HW.out]
  go_wp2_with fail
  refine (ref18_names K _).mono ?_
  rintro e w1 ⟨rfl, hb1⟩
  have L1 : Hid (Below (w.heap.size + 1) W w1) := Lib.hid (hb1.mono (by rw [HWS.out]; exact Nat.le_refl _))
  have hm3 := nm_length K
  obtain ⟨m, hm⟩ : ∃ m, (nm K).length = m := ⟨_, rfl⟩
  have hsz : (str (nm K)).size = m := by rw [str_size, hm]
  have hbyte : ∀ i c, (nm K)[i]? = some c → ∀ h : i < (str (nm K)).size, (((str (nm K))[i]'h).toNat : Int) = (c.toNat : Int) := by
    intro i c hc h
    obtain ⟨hi, e⟩ := List.getElem?_eq_some_iff.1 hc
    show (((nm K)[i]'hi).toNat : Int) = _
    rw [e]
  obtain ⟨S, hS⟩ : ∃ S, str (nm K) = S := ⟨_, rfl⟩
  rw [hm] at hm3
  rw [hS] at hsz hbyte ⊢
  have HM := Lib.hid hm
  have HSZ := Lib.hid hsz
  have HBY := Lib.hid hbyte
  have hm63 : S.size ≤ 3 := by omega
  clear hm hS hb1 hc0 hbyte
  go_wp2_with fail
  go_loopg [3, 5] m (fun gg s3 s5 wr => ∃ i : Nat, i ≤ m ∧ gg = m - i ∧ s5 = .int .i64 i ∧ Hid (OwnI (w.heap.size + 1) wr s3 ((((nm K).take i).flatMap ch).map (fld l))) ∧ Hid (Below (w.heap.size + 1) W wr))
  case atStart => exact ⟨0, by omega, rfl, rfl, Lib.hid (OwnI.nil _ _), L1⟩
  case round =>
    clear L1
    obtain ⟨i, hi, hg, rfl, HO, HL⟩ := hrel
    have hg := hg.symm
    subst hg
    by_cases hlt : i < m
    · have hiS : i < S.size := by omega
      have hi0 : (0 : Int) ≤ (i : Int) := by omega
      obtain ⟨c, hc⟩ : ∃ c, (nm K)[i]? = some c := ⟨_, List.getElem?_eq_getElem (by rw [HM.out]; exact hlt)⟩
      have hcc := nm_mem K c (List.mem_of_getElem? hc)
      have hby := HBY.out i c hc hiS
      have hps := part_succ l K i c hc
      have hpl := part_le K i
      rw [← List.length_map (f := fld l)] at hpl
      generalize (((nm K).take i).flatMap ch).map (fld l) = P at HO hps hpl
      have hLs : w.heap.size + 1 ≤ wr.heap.size := by have := HL.out.size; rw [HWS.out] at this; exact this
      go_upto_region 10 with fail
      clear hby hc
      rcases hcc with rfl | rfl | rfl | rfl | rfl
      · have k0 := (HB.out.below HL.out (by omega)).cell (HCC.out 1 (by omega))
        go_wp2_with (with_reducible refine ev_appI rfl (.tmp 38) (.tmp 41) rfl (w.heap.size + 1) W _ _ rfl (HO.out.below ((Below.refl wr.heap.size wr).alloc (Nat.le_refl _) _) (Nat.le_refl _)) (HL.out.alloc (by omega) _) (by simp; omega) wr.heap.size (fld l 1) rfl ((Blk.new wr _ _).cell rfl) (by omega) ?_; intro v2 w2 how2 hlw2 hgw2)
        have HO2 : Hid (OwnI (w.heap.size + 1) w2 v2 ((((nm K).take (i + 1)).flatMap ch).map (fld l))) := Lib.hid (by rw [hps]; exact how2)
        have HL2 := Lib.hid hlw2
        clear how2 hlw2 hgw2 k0
        go_wp2_with fail
        go_roundg (m - (i + 1))
        case measure => omega
        case rel => exact ⟨i + 1, by omega, rfl, by go_num, HO2, HL2⟩
      · have k0 := (HB.out.below HL.out (by omega)).cell (HCC.out 3 (by omega))
        go_wp2_with (with_reducible refine ev_appI rfl (.tmp 45) (.tmp 48) rfl (w.heap.size + 1) W _ _ rfl (HO.out.below ((Below.refl wr.heap.size wr).alloc (Nat.le_refl _) _) (Nat.le_refl _)) (HL.out.alloc (by omega) _) (by simp; omega) wr.heap.size (fld l 3) rfl ((Blk.new wr _ _).cell rfl) (by omega) ?_; intro v2 w2 how2 hlw2 hgw2)
        have HO2 : Hid (OwnI (w.heap.size + 1) w2 v2 ((((nm K).take (i + 1)).flatMap ch).map (fld l))) := Lib.hid (by rw [hps]; exact how2)
        have HL2 := Lib.hid hlw2
        clear how2 hlw2 hgw2 k0
        go_wp2_with fail
        go_roundg (m - (i + 1))
        case measure => omega
        case rel => exact ⟨i + 1, by omega, rfl, by go_num, HO2, HL2⟩
      · have k0 := (HB.out.below HL.out (by omega)).cell (HCC.out 2 (by omega))
        go_wp2_with (with_reducible refine ev_appI rfl (.tmp 52) (.tmp 55) rfl (w.heap.size + 1) W _ _ rfl (HO.out.below ((Below.refl wr.heap.size wr).alloc (Nat.le_refl _) _) (Nat.le_refl _)) (HL.out.alloc (by omega) _) (by simp; omega) wr.heap.size (fld l 2) rfl ((Blk.new wr _ _).cell rfl) (by omega) ?_; intro v2 w2 how2 hlw2 hgw2)
        have HO2 : Hid (OwnI (w.heap.size + 1) w2 v2 ((((nm K).take (i + 1)).flatMap ch).map (fld l))) := Lib.hid (by rw [hps]; exact how2)
        have HL2 := Lib.hid hlw2
        clear how2 hlw2 hgw2 k0
        go_wp2_with fail
        go_roundg (m - (i + 1))
        case measure => omega
        case rel => exact ⟨i + 1, by omega, rfl, by go_num, HO2, HL2⟩
      · have k0 := (HB.out.below HL.out (by omega)).cell (HCC.out 4 (by omega))
        go_wp2_with (with_reducible refine ev_appI rfl (.tmp 59) (.tmp 62) rfl (w.heap.size + 1) W _ _ rfl (HO.out.below ((Below.refl wr.heap.size wr).alloc (Nat.le_refl _) _) (Nat.le_refl _)) (HL.out.alloc (by omega) _) (by simp; omega) wr.heap.size (fld l 4) rfl ((Blk.new wr _ _).cell rfl) (by omega) ?_; intro v2 w2 how2 hlw2 hgw2)
        have HO2 : Hid (OwnI (w.heap.size + 1) w2 v2 ((((nm K).take (i + 1)).flatMap ch).map (fld l))) := Lib.hid (by rw [hps]; exact how2)
        have HL2 := Lib.hid hlw2
        clear how2 hlw2 hgw2 k0
        go_wp2_with fail
        go_roundg (m - (i + 1))
        case measure => omega
        case rel => exact ⟨i + 1, by omega, rfl, by go_num, HO2, HL2⟩
      · have k0 := (HB.out.below HL.out (by omega)).cell (HCC.out 5 (by omega))
        go_upto_region 8 with (with_reducible refine ev_appI rfl (.tmp 18) (.tmp 22) rfl (w.heap.size + 1) W _ _ rfl (HO.out.below ((Below.refl wr.heap.size wr).alloc (Nat.le_refl _) _) (Nat.le_refl _)) (HL.out.alloc (by omega) _) (by simp; omega) wr.heap.size (fld l 5) rfl ((Blk.new wr _ _).cell rfl) (by omega) ?_; intro v2 w2 how2 hlw2 hgw2)
        have HO2 := Lib.hid how2
        have HL2 := Lib.hid hlw2
        clear how2 hlw2 hgw2 k0
        have hz2 : w.heap.size + 1 ≤ w2.heap.size := by have := HL2.out.size; rw [HWS.out] at this; exact this
        have k0 := (HB.out.below HL2.out (by omega)).cell (HCC.out 6 (by omega))
        go_upto_region 9 with (with_reducible refine ev_appI rfl (.tmp 24) (.tmp 28) rfl (w.heap.size + 1) W _ _ rfl (HO2.out.below ((Below.refl w2.heap.size w2).alloc (Nat.le_refl _) _) (Nat.le_refl _)) (HL2.out.alloc (by omega) _) (by simp; omega) w2.heap.size (fld l 6) rfl ((Blk.new w2 _ _).cell rfl) (by simp; omega) ?_; intro v3 w3 how3 hlw3 hgw3)
        have HO3 := Lib.hid how3
        have HL3 := Lib.hid hlw3
        clear how3 hlw3 hgw3 k0
        have hz3 : w.heap.size + 1 ≤ w3.heap.size := by have := HL3.out.size; rw [HWS.out] at this; exact this
        have k0 := (HB.out.below HL3.out (by omega)).cell (HCC.out 7 (by omega))
        go_wp2_with (with_reducible refine ev_appI rfl (.tmp 30) (.tmp 34) rfl (w.heap.size + 1) W _ _ rfl (HO3.out.below ((Below.refl w3.heap.size w3).alloc (Nat.le_refl _) _) (Nat.le_refl _)) (HL3.out.alloc (by omega) _) (by simp; omega) w3.heap.size (fld l 7) rfl ((Blk.new w3 _ _).cell rfl) (by simp; omega) ?_; intro v4 w4 how4 hlw4 hgw4)
        have HO4 : Hid (OwnI (w.heap.size + 1) w4 v4 ((((nm K).take (i + 1)).flatMap ch).map (fld l))) := Lib.hid (by
          rw [hps]
          have e : P ++ (ch 82).map (fld l) = P ++ [fld l 5] ++ [fld l 6] ++ [fld l 7] := by simp [ch]
          rw [e]; exact how4)
        have HL4 := Lib.hid hlw4
        clear how4 hlw4 hgw4 k0
        go_wp2_with fail
        go_roundg (m - (i + 1))
        case measure => omega
        case rel => exact ⟨i + 1, by omega, rfl, by go_num, HO4, HL4⟩
    · obtain rfl : i = m := by omega
      go_wp2_with fail
      go_ret
      exact ⟨_, rfl, by rw [HF.out]; have := HO.out.mono (C := w.heap.size) (by omega); rwa [List.take_of_length_le (by rw [HM.out]; exact Nat.le_refl _)] at this, HBL.out.trans (HL.out.mono (by omega))⟩
end Go.Proofs.YtanihdpgblkeaaaDoor
