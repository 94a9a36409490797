/-
  Messages as texts (reeve's layer 36): the program's names and Line.
-/
import Derived.Test.YtanihdpgblkeaaaGreatDoorLetterParts
import Derived.Test.YtanihdpgblkeaaaGreatDoorRowAll
import Derived.Test.YtanihdpgblkeaaaGreatDoorWordsAll
import Derived.Test.YtanihdpgblkeaaaGreatDoorMsgName
namespace Go.Proofs.YtanihdpgblkeaaaGreatDoor
open Go.RowKit
set_option linter.unusedVariables false
set_option linter.unusedSimpArgs false

theorem below_self_ {B : Nat} {w W : World} (_ : Below B w W) : Below W.heap.size W W := Below.refl _ _
set_option maxRecDepth 100000 in
set_option maxHeartbeats 3200000 in
theorem letter_names (B g : Nat) (os : List Nat) (v : Value) (w : World) (hv : OwnPM B w v g os) (hl : os.length ≤ 10) :
    Calls Tryz.prog 35 #[v] w fun e w' => ∃ v', e = .returned v' ∧ OwnS w.heap.size w' v' ((os.map partWM).map strL) ∧ Below w.heap.size w w' := by
  obtain ⟨i0, hi, hz, hsize, hby⟩ : ∃ i, Tryz.prog.info? 9 = some i ∧ i.zero = some (.string ⟨#[]⟩) ∧ i.size = 1 ∧ i.bytes = 16 := ⟨_, rfl, rfl, rfl, rfl⟩
  have HI := Lib.hid hi
  clear hi
  obtain ⟨p, cp, rfl⟩ := hv.len
  have HV := Lib.hid hv
  obtain ⟨n, hn⟩ : ∃ n, os.length = n := ⟨_, rfl⟩
  have HN := Lib.hid hn
  rw [hn] at hl HV ⊢
  clear hn hv
  go_enter Tryz.func35, Tryz.ntmps35
  go_wp2_with fail
  go_loopg [3, 8] n (fun gg s3 i wr => ∃ (k : Nat) (l : List (List UInt8)), k ≤ n ∧ gg = n - k ∧ i = .int .i64 k ∧ l.length = k ∧ Hid (OwnS w.heap.size wr s3 (l.map strL)) ∧ Hid (Below w.heap.size w wr) ∧ Hid (l = (os.take k).map partWM))
  case atStart => exact ⟨0, [], Nat.zero_le _, rfl, rfl, rfl, Lib.hid (OwnS.nil _ _), Lib.hid (Below.refl _ _), Lib.hid rfl⟩
  case round =>
    obtain ⟨k, l, hk, hg, rfl, hll, HO, HB, HA⟩ := hrel
    have hg := hg.symm
    subst hg
    by_cases hlt : k < n
    · obtain ⟨o, ho⟩ : ∃ o, os[k]? = some o := ⟨_, List.getElem?_eq_getElem (by rw [HN.out]; exact hlt)⟩
      obtain ⟨b, cap, e1, h0, h1, c0, c1⟩ := OwnPM.at HV.out ho
      rw [HN.out] at e1
      cases e1
      have d0 := keepB HB.out c0 h1
      have d1 := keepB HB.out c1 h1
      have hkI : (k : Int) < (n : Int) := by omega
      have hk0 : (0 : Int) ≤ (k : Int) := by omega
      have hmul : k * 2 = 2 * k := by omega
      have HA2 : Hid (l ++ [partWM o] = (os.take (k + 1)).map partWM) := Lib.hid (by
        obtain ⟨hi, e⟩ := List.getElem?_eq_some_iff.1 ho
        rw [List.take_succ_eq_append_getElem hi, e, List.map_append, ← HA.out]; rfl)
      obtain ⟨X, hX⟩ : ∃ X, strL (partWM o) = X := ⟨_, rfl⟩
      have HX := Lib.hid hX
      rw [hX] at d0
      clear c0 c1 ho hX HA
      go_upto_region 5 with fail
      have HO1 := Lib.hid (HO.out.below ((Below.refl wr.heap.size wr).alloc (Nat.le_refl _) (.cells #[.string X, .pointer (some ⟨g, o, none⟩)] 63)) (Nat.le_refl _))
      have HB1 := Lib.hid (HB.out.alloc HB.out.size (.cells #[.string X, .pointer (some ⟨g, o, none⟩)] 63))
      have KP := Blk.new wr #[.string X, .pointer (some ⟨g, o, none⟩)] 63
      have e0 := KP.cell (i := 0) rfl
      obtain ⟨w1, hw1⟩ : ∃ w1, wr.alloc (.cells #[.string X, .pointer (some ⟨g, o, none⟩)] 63) = w1 := ⟨_, rfl⟩
      rw [hw1] at HO1 HB1 e0 ⊢
      clear hw1 KP d0 d1 HO HB
      go_wp2_with (at_builtin; refine wpList_append_own _ rfl _ _ 67 rfl w.heap.size 9 i0 (.string ⟨#[]⟩) 1 16 Tryz.underlying67 HI.out hz hsize hby rfl (by decide) _ (l.map strL).length ((l.map strL).map Value.string) rfl (HO1.out.below ((Below.refl _ _).alloc (Nat.le_refl _) _) (Nat.le_refl _)) ⟨_, 0, none⟩ 1 1 [.string X] rfl rfl (cell_one_new _ _ _) (by intro u hu; simp at hu; subst hu; rfl) (by unfold maxLen; simp; omega) (by simp; omega) (by have := HB1.out.size; simp; omega) ?_)
      intro v' w4 hown2 hgrow _
      have HO3 := Lib.hid (ownS_mkL (l := l) (b := X) (by rw [hll]; exact hown2))
      have HB3 := Lib.hid (OwnS.gby (HO1.out.below ((Below.refl _ _).alloc (Nat.le_refl _) _) (Nat.le_refl _)) (HB1.out.alloc HB1.out.size _) (by have := HB1.out.size; simp; omega) hgrow)
      clear hown2 hgrow
      rw [← HX.out] at HO3
      go_wp2_with fail
      go_roundg (n - (k + 1))
      case measure => omega
      case rel => exact ⟨k + 1, l ++ [partWM o], by omega, rfl, by go_num, by rw [List.length_append, hll]; rfl, Lib.hid (by rw [List.map_append]; exact HO3.out), HB3, HA2⟩
    · obtain rfl : k = n := by omega
      have hF : l = os.map partWM := by rw [HA.out, List.take_of_length_le (by rw [HN.out]; exact Nat.le_refl _)]
      have HF := Lib.hid hF
      clear hF HA
      go_wp2_with fail
      go_ret
      exact ⟨_, rfl, by have h := HO.out; rw [HF.out, List.map_map] at h; exact h, HB.out⟩
set_option maxRecDepth 100000 in
set_option maxHeartbeats 6400000 in
theorem letter_line (l : List Int) (hl : l.length = 12) (hw : wfI l) (w : World) (hL : LaidL w) :
    Calls Tryz.prog 9 #[.agg (cellsI l)] w fun e w' => e = .returned (.tuple #[.string (strL (lineM l).1), .int .i64 (lineM l).2]) ∧ Below w.heap.size w w' := by
  obtain ⟨i0, hi, hz, hsize, hby⟩ : ∃ i, Tryz.prog.info? 3 = some i ∧ i.zero = some (.int .i64 0) ∧ i.size = 1 ∧ i.bytes = 8 := ⟨_, rfl, rfl, rfl, rfl⟩
  have HI := Lib.hid hi
  clear hi
  have hu := Tryz.underlying25
  have HCK := fun w h => msg_check l hl w h
  have hk := fun h => checkM_kind (l := l) h
  have hline : checkM l = 0 → lineM l = (rowL (headM l) (namesWM (fld l 0)) (numsM l), 0) := fun h => by unfold lineM; rw [if_pos h]
  have hline2 : checkM l ≠ 0 → lineM l = ([], checkM l) := fun h => by unfold lineM; rw [if_neg h]
  have hni := numsM_in hw
  have hhl := headM_len l
  have hnl := numsM_len l
  have hn5 := (namesWM_len (fld l 0)).1
  have hnums : numsM l = (offsM (fld l 0)).map (fld l) := rfl
  have hoff := offsM_lt (fld l 0)
  obtain ⟨LR, hLR⟩ : ∃ R, lineM l = R := ⟨_, rfl⟩
  rw [hLR] at hline hline2 ⊢
  obtain ⟨LR1, LR2⟩ := LR
  obtain ⟨CK, hCK⟩ : ∃ c, checkM l = c := ⟨_, rfl⟩
  rw [hCK] at HCK hk hline hline2
  have hcells : ∀ o, o < 12 → (cellsI l)[o]? = some (.int .i64 (fld l o)) := fun o ho => cellsI_at (by omega)
  obtain ⟨a0, a1, a2, a3, a4, a5, a6, a7, a8, a9, a10, a11, hl8⟩ := twelve_of hl
  have hk0 : fld l 0 = a0 := by rw [hl8]; rfl
  have hcell : cellsI l = #[.int .i64 a0, .int .i64 a1, .int .i64 a2, .int .i64 a3, .int .i64 a4, .int .i64 a5, .int .i64 a6, .int .i64 a7, .int .i64 a8, .int .i64 a9, .int .i64 a10, .int .i64 a11] := by rw [hl8]; rfl
  rw [hk0] at hk hline hnl hn5 hnums hoff
  have hhead : headM l = Lib.join [kindWM a0, nameM a1, nameM a2] [32] := by rw [hl8]; rfl
  rw [hhead] at hline hhl
  rw [hcell] at HCK hcells ⊢
  obtain ⟨NS, hNS⟩ : ∃ N, numsM l = N := ⟨_, rfl⟩
  rw [hNS] at hline hni hnl hnums
  generalize fld l = F at hcells hnums
  obtain ⟨n0, hn0⟩ : ∃ n, w.heap.size = n := ⟨_, rfl⟩
  obtain ⟨W, hW⟩ : ∃ W, w.alloc (.cells #[.int .i64 a0, .int .i64 a1, .int .i64 a2, .int .i64 a3, .int .i64 a4, .int .i64 a5, .int .i64 a6, .int .i64 a7, .int .i64 a8, .int .i64 a9, .int .i64 a10, .int .i64 a11] 25) = W := ⟨_, rfl⟩
  have hb0 : Below n0 w W := by rw [← hW, ← hn0]; exact (Below.refl _ _).alloc (Nat.le_refl _) _
  have K : Blk W n0 #[.int .i64 a0, .int .i64 a1, .int .i64 a2, .int .i64 a3, .int .i64 a4, .int .i64 a5, .int .i64 a6, .int .i64 a7, .int .i64 a8, .int .i64 a9, .int .i64 a10, .int .i64 a11] 25 := by rw [← hW, ← hn0]; exact Blk.new w _ _
  have HK := Lib.hid K
  have HB := Lib.hid hb0
  have HL := Lib.hid (hL.below (hn0 ▸ hb0))
  have HCA := Lib.hid hcells
  have HW := Lib.hid hW
  have HN0 := Lib.hid hn0
  have HLI := Lib.hid hline
  have HLI2 := Lib.hid hline2
  have HNI := Lib.hid hni
  have HNL := Lib.hid hnl
  have HN5 := Lib.hid hn5
  have HNU := Lib.hid hnums
  have HOF := Lib.hid hoff
  have HKK := Lib.hid hk
  have HHL := Lib.hid hhl
  have HCK2 : Hid (∀ w, LaidM w → Calls Tryz.prog 30 #[.agg #[.int .i64 a0, .int .i64 a1, .int .i64 a2, .int .i64 a3, .int .i64 a4, .int .i64 a5, .int .i64 a6, .int .i64 a7, .int .i64 a8, .int .i64 a9, .int .i64 a10, .int .i64 a11]] w fun e w' => e = .returned (.int .i64 CK) ∧ Below w.heap.size w w') := Lib.hid HCK
  rw [hn0]
  clear hW hb0 K hL hcells hline hline2 hni hnl hn5 hnums hoff hk hLR hCK hl8 hk0 hcell hNS hn0 hw hl hhl hhead HCK
  go_enter Tryz.func9, Tryz.ntmps9
  go_upto_region 1 with fail
  rw [HW.out]
  try rw [HN0.out]
  clear HW
  have c0 := HK.out.cell (i := 0) rfl
  have c1 := HK.out.cell (i := 1) rfl
  have c2 := HK.out.cell (i := 2) rfl
  have c3 := HK.out.cell (i := 3) rfl
  have c4 := HK.out.cell (i := 4) rfl
  have c5 := HK.out.cell (i := 5) rfl
  have c6 := HK.out.cell (i := 6) rfl
  have c7 := HK.out.cell (i := 7) rfl
  have c8 := HK.out.cell (i := 8) rfl
  have c9 := HK.out.cell (i := 9) rfl
  have c10 := HK.out.cell (i := 10) rfl
  have c11 := HK.out.cell (i := 11) rfl
  go_wp2_with fail
  refine (HCK2.out _ HL.out.m).mono ?_
  rintro e w1 ⟨rfl, hb1⟩
  clear c0 c1 c2 c3 c4 c5 c6 c7 c8 c9 c10 c11 HCK2
  have HK1 := Lib.hid (HK.out.below hb1 HK.out.lt)
  have HL1 := Lib.hid (HL.out.below hb1)
  have HB1 := Lib.hid (HB.out.trans (hb1.mono (by have := HB.out.size; have := HN0.out; have := HK.out.lt; omega)))
  clear hb1 HK HL HB
  by_cases hz0 : CK = 0
  · have hR := HLI.out hz0
    obtain rfl : LR1 = _ := (Prod.mk.inj hR).1
    obtain rfl : LR2 = 0 := (Prod.mk.inj hR).2
    have hk17 := HKK.out hz0
    subst hz0
    have c0 := HK1.out.cell (i := 0) rfl
    clear hR HLI HLI2
    go_wp2_with fail
    refine (letter_word a0 w1 HL1.out).mono ?_
    rintro e w2 ⟨rfl, rfl⟩
    go_wp2_with fail
    refine (letter_parts n0 a0 hk17 w1 c0).mono ?_
    rintro e w2 ⟨v, rfl, hP, hb2⟩
    obtain ⟨pp, pc, rfl⟩ := hP.len
    have HP := Lib.hid hP
    have HK2 := Lib.hid (HK1.out.below hb2 HK1.out.lt)
    have HL2 := Lib.hid (HL1.out.below hb2)
    have HB2 := Lib.hid (HB1.out.trans (hb2.mono (by have := HK1.out.lt; omega)))
    have hm5 : (offsM a0).length ≤ 5 := offsM_length a0
    obtain ⟨m, hm⟩ : ∃ m, (offsM a0).length = m := ⟨_, rfl⟩
    have HM := Lib.hid hm
    rw [hm] at HP hm5 ⊢
    have HS1 : Hid (n0 < w2.heap.size) := Lib.hid HK2.out.lt
    clear hP hb2 HK1 HL1 HB1 c0 hm
    go_wp2_with fail
    go_loopg [8, 25] m (fun gg s8 i wr => ∃ (q : Nat) (ns : List Int), q ≤ m ∧ gg = m - q ∧ i = .int .i64 q ∧ ns.length = q ∧ Hid (OwnN w2.heap.size wr s8 ns) ∧ Hid (Below w2.heap.size w2 wr) ∧ Hid (ns = ((offsM a0).take q).map F))
    case atStart => exact ⟨0, [], Nat.zero_le _, rfl, rfl, rfl, Lib.hid (OwnN.nil _ _), Lib.hid (Below.refl _ _), Lib.hid rfl⟩
    case round =>
      obtain ⟨q, ns, hq, hg, rfl, hnl, HO, HBB, HA⟩ := hrel
      have hg := hg.symm
      subst hg
      by_cases hlt : q < m
      · obtain ⟨o, ho⟩ : ∃ o, (offsM a0)[q]? = some o := ⟨_, List.getElem?_eq_getElem (by rw [HM.out]; exact hlt)⟩
        obtain ⟨b, cap, e1, h0, h1, d0, d1⟩ := OwnPM.at HP.out (by exact ho)
        rw [HM.out] at e1
        cases e1
        have e0 := keepB HBB.out d0 h1
        have e1 := keepB HBB.out d1 h1
        have ho8 := (HOF.out o (List.mem_of_getElem? ho)).2
        have hcf := keepB HBB.out (HK2.out.cell (HCA.out o (by omega))) HS1.out
        have hkI : (q : Int) < (m : Int) := by omega
        have hk0 : (0 : Int) ≤ (q : Int) := by omega
        have hmul : q * 2 = 2 * q := by omega
        have HA2 : Hid (ns ++ [F o] = ((offsM a0).take (q + 1)).map F) := Lib.hid (by
          obtain ⟨hi, e⟩ := List.getElem?_eq_some_iff.1 ho
          rw [List.take_succ_eq_append_getElem hi, e, List.map_append, ← HA.out]; rfl)
        obtain ⟨X, hX⟩ : ∃ X, strL (partWM o) = X := ⟨_, rfl⟩
        rw [hX] at e0
        obtain ⟨Z, hZ⟩ : ∃ Z, F o = Z := ⟨_, rfl⟩
        rw [hZ] at hcf HA2
        have hlt3 : n0 < wr.heap.size := by have := HBB.out.size; have := HS1.out; omega
        clear d0 d1 ho hX hZ HA
        go_upto_region 10 with fail
        have HO1 := Lib.hid (HO.out.below ((Below.refl wr.heap.size wr).alloc (Nat.le_refl _) (.cells #[.string X, .pointer (some ⟨n0, o, none⟩)] 63)) (Nat.le_refl _))
        have HBB1 := Lib.hid (HBB.out.alloc HBB.out.size (.cells #[.string X, .pointer (some ⟨n0, o, none⟩)] 63))
        have KP := Blk.new wr #[.string X, .pointer (some ⟨n0, o, none⟩)] 63
        have g1 := KP.cell (i := 1) rfl
        have g2 := keepA hcf (.cells #[.string X, .pointer (some ⟨n0, o, none⟩)] 63)
        obtain ⟨w3, hw3⟩ : ∃ w3, wr.alloc (.cells #[.string X, .pointer (some ⟨n0, o, none⟩)] 63) = w3 := ⟨_, rfl⟩
        rw [hw3] at HO1 HBB1 g1 g2 ⊢
        clear hw3 KP e0 e1 hcf HO HBB
        go_wp2_with (at_builtin; refine wpList_append_own _ rfl _ _ 60 rfl w2.heap.size 3 i0 (.int .i64 0) 1 8 Tryz.underlying60 HI.out hz hsize hby rfl (by decide) _ ns.length (ns.map (Value.int .i64)) rfl (HO1.out.below ((Below.refl _ _).alloc (Nat.le_refl _) _) (Nat.le_refl _)) ⟨_, 0, none⟩ 1 1 [.int .i64 Z] rfl rfl (cell_one_new _ _ _) (by intro u hu; simp at hu; subst hu; rfl) (by unfold maxLen; omega) (by omega) (by have := HBB1.out.size; simp; omega) ?_)
        intro v' w4 hown2 hgrow _
        have HO3 := Lib.hid (OwnN.mk (l := ns) (b := Z) (by rw [hnl]; exact hown2))
        have HB3 := Lib.hid (OwnN.gby (HO1.out.below ((Below.refl _ _).alloc (Nat.le_refl _) _) (Nat.le_refl _)) (HBB1.out.alloc HBB1.out.size _) (by have := HBB1.out.size; simp; omega) hgrow)
        clear hown2 hgrow
        go_wp2_with fail
        go_roundg (m - (q + 1))
        case measure => omega
        case rel => exact ⟨q + 1, ns ++ [Z], by omega, rfl, by go_num, by rw [List.length_append, hnl]; rfl, HO3, HB3, HA2⟩
      · obtain rfl : q = m := by omega
        have hF : ns = NS := by rw [HA.out, List.take_of_length_le (by rw [HM.out]; exact Nat.le_refl _), HNU.out]
        subst hF
        have HRN := Lib.hid HO.out.row
        have HPN := Lib.hid (HP.out.below HBB.out (Nat.le_refl _))
        have HL3 := Lib.hid (HL2.out.below HBB.out)
        have HB3 := Lib.hid (HB2.out.trans (HBB.out.mono (by have := HS1.out; omega)))
        have c1 := keepB HBB.out (HK2.out.cell (i := 1) rfl) HS1.out
        have c2 := keepB HBB.out (HK2.out.cell (i := 2) rfl) HS1.out
        have al : n0 < wr.heap.size := by have := HBB.out.size; have := HS1.out; omega
        have PN := Lib.hid (fun (wx : World) (h : OwnPM w1.heap.size wx (.slice pp q pc) n0 (offsM a0)) => letter_names w1.heap.size n0 (offsM a0) _ wx h (by rw [HM.out]; omega))
        have RL0 := fun (wx : World) (vn vi : Value) (h1 : RowS wx vn ((namesWM a0).map strL)) (h2 : RowN wx vi ns) (h3 : Laid wx) => row_line (Lib.join [kindWM a0, nameM a1, nameM a2] [32]) vn vi (namesWM a0) ns wx h1 h2 HHL.out (by have := HN5.out; omega) (namesWM_len a0).2 (by have := HNL.out; have := HN5.out; omega) HNI.out h3
        have JN0 := fun (wx : World) (v : Value) (h : RowS wx v [strL (kindWM a0), strL (nameM a1), strL (nameM a2)]) => words_joined v [kindWM a0, nameM a1, nameM a2] wx (by exact h) (by simp) (by have := HHL.out; omega)
        obtain ⟨HS, hHS⟩ : ∃ S, strL (Lib.join [kindWM a0, nameM a1, nameM a2] [32]) = S := ⟨_, rfl⟩
        rw [hHS] at RL0 JN0
        have RL := Lib.hid RL0
        have JN := Lib.hid JN0
        have hw0 : Below wr.heap.size wr wr.drew := ⟨rfl, rfl, rfl, Nat.le_refl _, fun _ _ => rfl⟩
        clear HA HO HBB HL2 HB2 HP HNI RL0 JN0 hHS
        go_upto_region 12 with fail
        refine wp_region_held_drew (S := (fun w' => w'.cell? ⟨n0, 1, none⟩ = some (.int .i64 a1) ∧ w'.cell? ⟨n0, 2, none⟩ = some (.int .i64 a2))) (by kernel_rfl) ⟨c1, c2⟩ (fun hHeld => ?_)
        refine wpAnyH_take (i := 0) (oi := ({ dst := some 37, op := Op.move (Operand.tmp 5), type := 9, pos := "letter.go:74", after := #[], guard := none })) (v := (.string (strL (kindWM a0)))) rfl (by kernel_rfl) (by kernel_rfl) (by kernel_rfl) (fun _ _ _ h => h) (Or.inl ⟨by rfl, ?_⟩) (by assumption) ?_
        · (intro w hSw; (try dsimp only at hSw); go_simp)
        try simp only [Act.put, List.setIfInBounds_toArray, List.set_cons_zero, List.set_cons_succ]
        refine wpAnyH_take (i := 1) (oi := ({ dst := some 38, op := Op.fieldAddr 25 (Operand.tmp 1) 1, type := 0, pos := "letter.go:74", after := #[], guard := none })) (v := (.pointer (some ⟨n0, 1, none⟩))) rfl (by kernel_rfl) (by kernel_rfl) (by kernel_rfl) (fun _ _ _ h => h) (Or.inl ⟨by rfl, ?_⟩) (by assumption) ?_
        · (intro w hSw; (try dsimp only at hSw); go_simp)
        try simp only [Act.put, List.setIfInBounds_toArray, List.set_cons_zero, List.set_cons_succ]
        refine wpAnyH_take (i := 2) (oi := ({ dst := some 39, op := Op.load 3 (Operand.tmp 38), type := 3, pos := "letter.go:74", after := #[{ on := 1, ground := Ground.data }], guard := none })) (v := (.int .i64 a1)) rfl (by kernel_rfl) (by kernel_rfl) (by kernel_rfl) (fun _ _ _ h => h) (Or.inl ⟨by rfl, ?_⟩) (by assumption) ?_
        · (intro w hSw; (try dsimp only at hSw); go_simp)
        try simp only [Act.put, List.setIfInBounds_toArray, List.set_cons_zero, List.set_cons_succ]
        refine wpAnyH_take (i := 4) (oi := ({ dst := some 41, op := Op.fieldAddr 25 (Operand.tmp 1) 2, type := 0, pos := "letter.go:74", after := #[], guard := none })) (v := (.pointer (some ⟨n0, 2, none⟩))) rfl (by kernel_rfl) (by kernel_rfl) (by kernel_rfl) (fun _ _ _ h => h) (Or.inl ⟨by rfl, ?_⟩) (by assumption) ?_
        · (intro w hSw; (try dsimp only at hSw); go_simp)
        try simp only [Act.put, List.setIfInBounds_toArray, List.set_cons_zero, List.set_cons_succ]
        refine wpAnyH_take (i := 5) (oi := ({ dst := some 42, op := Op.load 3 (Operand.tmp 41), type := 3, pos := "letter.go:74", after := #[{ on := 4, ground := Ground.data }], guard := none })) (v := (.int .i64 a2)) rfl (by kernel_rfl) (by kernel_rfl) (by kernel_rfl) (fun _ _ _ h => h) (Or.inl ⟨by rfl, ?_⟩) (by assumption) ?_
        · (intro w hSw; (try dsimp only at hSw); go_simp)
        try simp only [Act.put, List.setIfInBounds_toArray, List.set_cons_zero, List.set_cons_succ]
        refine wpAnyH_take (i := 9) (oi := ({ dst := some 46, op := Op.move (Operand.tmp 7), type := 57, pos := "letter.go:74", after := #[], guard := none })) (v := (.slice pp q pc)) rfl (by kernel_rfl) (by kernel_rfl) (by kernel_rfl) (fun _ _ _ h => h) (Or.inl ⟨by rfl, ?_⟩) (by assumption) ?_
        · (intro w hSw; (try dsimp only at hSw); go_simp)
        try simp only [Act.put, List.setIfInBounds_toArray, List.set_cons_zero, List.set_cons_succ]
        refine wpAnyH_take (i := 11) (oi := ({ dst := some 48, op := Op.move (Operand.tmp 8), type := 60, pos := "letter.go:74", after := #[], guard := none })) (v := u8) rfl (by kernel_rfl) (by kernel_rfl) (by kernel_rfl) (fun _ _ _ h => h) (Or.inl ⟨by rfl, ?_⟩) (by assumption) ?_
        · (intro w hSw; (try dsimp only at hSw); go_simp)
        try simp only [Act.put, List.setIfInBounds_toArray, List.set_cons_zero, List.set_cons_succ]
        refine wpAnyH_ready (rs := [3]) (by kernel_rfl) (by simp) (AllReadyH.cons (o := ({ dst := some 40, op := Op.call { callee := Callee.value (Operand.func 34), args := #[Operand.tmp 39], argTypes := #[3] }, type := 9, pos := "letter.go:74", after := #[{ on := 2, ground := Ground.data }], guard := none })) rfl (fun K hK => ?_) AllReadyH.nil)
        go_simp
        refine (msg_name a1 _ (HL3.out.laid.below hw0)).mono ?_
        rintro e wc ⟨rfl, hbq⟩
        replace hw0 := hw0.trans (Below.mono (by exact ⟨hbq.os, hbq.tape, hbq.output, hbq.size, hbq.block⟩) hw0.size)
        clear hbq
        go_wp2_with fail
        clear hHeld
        refine hK.out _ _ ⟨keepB hw0 c1 al, keepB hw0 c2 al⟩ (fun hHeld => ?_)
        clear hK K
        try simp only [Act.put, List.setIfInBounds_toArray, List.set_cons_zero, List.set_cons_succ]
        refine wpAnyH_ready (rs := [6]) (by kernel_rfl) (by simp) (AllReadyH.cons (o := ({ dst := some 43, op := Op.call { callee := Callee.value (Operand.func 34), args := #[Operand.tmp 42], argTypes := #[3] }, type := 9, pos := "letter.go:74", after := #[{ on := 5, ground := Ground.data }, { on := 3, ground := Ground.chain }], guard := none })) rfl (fun K hK => ?_) AllReadyH.nil)
        go_simp
        refine (msg_name a2 _ (HL3.out.laid.below hw0)).mono ?_
        rintro e wc ⟨rfl, hbq⟩
        replace hw0 := hw0.trans (Below.mono (by exact ⟨hbq.os, hbq.tape, hbq.output, hbq.size, hbq.block⟩) hw0.size)
        clear hbq
        go_wp2_with fail
        clear hHeld
        refine hK.out _ _ ⟨keepB hw0 c1 al, keepB hw0 c2 al⟩ (fun hHeld => ?_)
        clear hK K
        try simp only [Act.put, List.setIfInBounds_toArray, List.set_cons_zero, List.set_cons_succ]
        refine wpAnyH_ready (rs := [7]) (by kernel_rfl) (by simp) (AllReadyH.cons (o := ({ dst := some 44, op := Op.buildSlice 67 3 #[(0, Operand.tmp 37), (1, Operand.tmp 40), (2, Operand.tmp 43)], type := 67, pos := "letter.go:74", after := #[{ on := 0, ground := Ground.data }, { on := 3, ground := Ground.data }, { on := 6, ground := Ground.data }], guard := none })) rfl (fun K hK => ?_) AllReadyH.nil)
        go_simp
        have hw1 := hw0.alloc hw0.size (.cells #[.string (strL (kindWM a0)), .string (strL (nameM a1)), .string (strL (nameM a2))] 9)
        clear hHeld
        refine hK.out _ _ ⟨keepB hw1 c1 al, keepB hw1 c2 al⟩ (fun hHeld => ?_)
        clear hK K
        try simp only [Act.put, List.setIfInBounds_toArray, List.set_cons_zero, List.set_cons_succ]
        refine wpAnyH_ready (rs := [8]) (by kernel_rfl) (by simp) (AllReadyH.cons (o := ({ dst := some 45, op := Op.call { callee := Callee.value (Operand.func 33), args := #[Operand.tmp 44], argTypes := #[67] }, type := 9, pos := "letter.go:74", after := #[{ on := 7, ground := Ground.data }, { on := 6, ground := Ground.chain }], guard := none })) rfl (fun K hK => ?_) AllReadyH.nil)
        go_simp
        refine (JN.out _ _ (by exact rowS_three wc (strL (kindWM a0)) (strL (nameM a1)) (strL (nameM a2)))).mono ?_
        rintro e wj ⟨rfl, hbq⟩
        replace hw0 := hw1.trans (Below.mono (by exact ⟨hbq.os, hbq.tape, hbq.output, hbq.size, hbq.block⟩) hw1.size)
        clear hbq hw1
        go_wp2_with fail
        clear hHeld
        refine hK.out _ _ ⟨keepB hw0 c1 al, keepB hw0 c2 al⟩ (fun hHeld => ?_)
        clear hK K
        try simp only [Act.put, List.setIfInBounds_toArray, List.set_cons_zero, List.set_cons_succ]
        refine wpAnyH_ready (rs := [10]) (by kernel_rfl) (by simp) (AllReadyH.cons (o := ({ dst := some 47, op := Op.call { callee := Callee.value (Operand.func 35), args := #[Operand.tmp 46], argTypes := #[57] }, type := 67, pos := "letter.go:74", after := #[{ on := 9, ground := Ground.data }, { on := 8, ground := Ground.chain }], guard := none })) rfl (fun K hK => ?_) AllReadyH.nil)
        go_simp
        refine (PN.out _ (HPN.out.below hw0 (Nat.le_refl _))).mono ?_
        rintro e wn ⟨v4, rfl, h4, hbq⟩
        replace h4 : Hid (RowS wn v4 ((namesWM a0).map strL)) := Lib.hid h4.row
        replace hw0 := hw0.trans (Below.mono (by exact ⟨hbq.os, hbq.tape, hbq.output, hbq.size, hbq.block⟩) hw0.size)
        clear hbq
        go_wp2_with fail
        clear hHeld
        refine hK.out _ _ ⟨keepB hw0 c1 al, keepB hw0 c2 al⟩ (fun hHeld => ?_)
        clear hK K
        try simp only [Act.put, List.setIfInBounds_toArray, List.set_cons_zero, List.set_cons_succ]
        refine wpAnyH_ready (rs := [12]) (by kernel_rfl) (by simp) (AllReadyH.cons (o := ({ dst := some 49, op := Op.call { callee := Callee.value (Operand.func 32), args := #[Operand.tmp 45, Operand.tmp 47, Operand.tmp 48], argTypes := #[9, 67, 60] }, type := 9, pos := "letter.go:74", after := #[{ on := 8, ground := Ground.data }, { on := 10, ground := Ground.data }, { on := 11, ground := Ground.data }, { on := 10, ground := Ground.chain }], guard := none })) rfl (fun K hK => ?_) AllReadyH.nil)
        go_simp
        refine (RL.out _ _ _ h4.out (HRN.out.below hw0 (Nat.le_refl _)) (HL3.out.laid.below hw0)).mono ?_
        rintro e wl ⟨rfl, hbq⟩
        replace hw0 := hw0.trans (Below.mono (by exact ⟨hbq.os, hbq.tape, hbq.output, hbq.size, hbq.block⟩) hw0.size)
        clear hbq
        go_wp2_with fail
        clear hHeld
        refine hK.out _ _ ⟨keepB hw0 c1 al, keepB hw0 c2 al⟩ (fun hHeld => ?_)
        clear hK K
        try simp only [Act.put, List.setIfInBounds_toArray, List.set_cons_zero, List.set_cons_succ]
        refine wpAnyH_take (i := 13) (oi := ({ dst := some 2, op := Op.assign (Operand.tmp 49), type := 9, pos := "letter.go:74", after := #[{ on := 12, ground := Ground.data }, { on := 12, ground := Ground.chain }, { on := 0, ground := Ground.phase }, { on := 1, ground := Ground.phase }, { on := 2, ground := Ground.phase }, { on := 3, ground := Ground.phase }, { on := 4, ground := Ground.phase }, { on := 5, ground := Ground.phase }, { on := 6, ground := Ground.phase }, { on := 7, ground := Ground.phase }, { on := 8, ground := Ground.phase }, { on := 9, ground := Ground.phase }, { on := 10, ground := Ground.phase }, { on := 11, ground := Ground.phase }, { on := 12, ground := Ground.phase }], guard := none })) (v := (.string (strL (rowL (Lib.join [kindWM a0, nameM a1, nameM a2] [32]) (namesWM a0) ns)))) rfl (by kernel_rfl) (by kernel_rfl) (by kernel_rfl) (fun _ _ _ h => h) (Or.inl ⟨by rfl, ?_⟩) (by assumption) ?_
        · (intro w hSw; (try dsimp only at hSw); go_simp)
        try simp only [Act.put, List.setIfInBounds_toArray, List.set_cons_zero, List.set_cons_succ]
        refine wpAnyH_take (i := 14) (oi := ({ dst := some 3, op := Op.assign (Operand.const (Value.int IntKind.i64 0)), type := 27, pos := "letter.go:74", after := #[{ on := 13, ground := Ground.chain }, { on := 0, ground := Ground.phase }, { on := 1, ground := Ground.phase }, { on := 2, ground := Ground.phase }, { on := 3, ground := Ground.phase }, { on := 4, ground := Ground.phase }, { on := 5, ground := Ground.phase }, { on := 6, ground := Ground.phase }, { on := 7, ground := Ground.phase }, { on := 8, ground := Ground.phase }, { on := 9, ground := Ground.phase }, { on := 10, ground := Ground.phase }, { on := 11, ground := Ground.phase }, { on := 12, ground := Ground.phase }, { on := 13, ground := Ground.phase }], guard := none })) (v := (.int .i64 0)) rfl (by kernel_rfl) (by kernel_rfl) (by kernel_rfl) (fun _ _ _ h => h) (Or.inl ⟨by rfl, ?_⟩) (by assumption) ?_
        · (intro w hSw; (try dsimp only at hSw); go_simp)
        try simp only [Act.put, List.setIfInBounds_toArray, List.set_cons_zero, List.set_cons_succ]
        refine wpAnyH_done (by kernel_rfl) ?_ _
        clear hHeld
        go_wp2_with fail
        go_ret2
        exact ⟨rfl, HB3.out.trans (hw0.mono (by have := HB3.out.size; have := HN0.out; omega))⟩
  · have hR := HLI2.out hz0
    obtain rfl : LR1 = [] := (Prod.mk.inj hR).1
    obtain rfl : LR2 = CK := (Prod.mk.inj hR).2
    have hne : (LR2 == 0) = false := by simp [hz0]
    have hne2 : (LR2 != 0) = true := by simp [hz0]
    clear hR HLI HLI2
    go_wp2_with fail
    go_ret2
    exact ⟨rfl, HB1.out⟩
end Go.Proofs.YtanihdpgblkeaaaGreatDoor
