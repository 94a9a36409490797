/-
  Events as texts (reeve's layer 19): the program's Word, names, Line; the reference's Word.
-/
import Derived.Test.YtanihdpgblkeaaaGreatDoorPhraseParts
import Derived.Test.YtanihdpgblkeaaaGreatDoorPhraseLaid
namespace Go.Proofs.YtanihdpgblkeaaaGreatDoor
open Go.RowKit
set_option linter.unusedVariables false
set_option linter.unusedSimpArgs false

def wordB (k : Int) : Bool := decide (1 ≤ k) && decide (k ≤ 7)
theorem wordB_yes {k : Int} (h : 1 ≤ k ∧ k ≤ 7) : wordB k = true := by unfold wordB; simp [h.1, h.2]
theorem wordB_no {k : Int} (h : k < 1 ∨ 7 < k) : wordB k = false := by
  unfold wordB; rcases h with h | h
  · rw [decide_eq_false (by omega)]; rfl
  · rw [decide_eq_false (show ¬ k ≤ 7 by omega), Bool.and_false]
theorem kindW_no {k : Int} (h : k < 1 ∨ 7 < k) : kindW k = [] := by
  unfold kindW
  rw [if_neg (by omega), if_neg (by omega), if_neg (by omega), if_neg (by omega), if_neg (by omega), if_neg (by omega), if_neg (by omega)]
theorem phrase_word (k : Int) (w : World) (hL : LaidP w) : Calls Tryz.prog 52 #[.int .i64 k] w fun e w' => e = .returned (.tuple #[.string (strL (kindW k)), .bool (wordB k)]) ∧ w = w' := by
  by_cases h1 : k < 1
  · rw [wordB_no (.inl h1), kindW_no (.inl h1)]
    go_enter Tryz.func52, Tryz.ntmps52
    go_wp2_with fail
    go_ret2
    exact ⟨rfl, rfl⟩
  have h1' : 1 ≤ k := by omega
  by_cases h2 : 7 < k
  · rw [wordB_no (.inr h2), kindW_no (.inr h2)]
    clear h1
    go_enter Tryz.func52, Tryz.ntmps52
    go_wp2_with fail
    go_ret2
    exact ⟨rfl, rfl⟩
  have h2' : k ≤ 7 := by omega
  rw [wordB_yes ⟨h1', h2'⟩]
  obtain ⟨q, hq⟩ : ∃ q : Nat, k = (q : Int) + 1 := ⟨(k - 1).toNat, by omega⟩
  subst hq
  have hc := hL.kinds q (by omega)
  rw [show ((q + 1 : Nat) : Int) = (q : Int) + 1 by push_cast; rfl] at hc
  have q1 : (q : Int) + 1 - 1 = (q : Int) := by omega
  have q2 : IntKind.i64.wrap (q : Int) = (q : Int) := by rw [IntKind.wrap_i64]; omega
  have q3 : (0 : Int) ≤ (q : Int) := by omega
  have q4 : (q : Int) < 7 := by omega
  generalize strL (kindW ((q : Int) + 1)) = X at *
  clear hL h1 h2
  go_enter Tryz.func52, Tryz.ntmps52
  go_wp2_with fail
  go_ret2
  exact ⟨rfl, rfl⟩
set_option maxRecDepth 100000 in
set_option maxHeartbeats 3200000 in
theorem phrase_names (B g : Nat) (os : List Nat) (v : Value) (w : World) (hv : OwnP B w v g os) (hl : os.length ≤ 10) :
    Calls Tryz.prog 88 #[v] w fun e w' => ∃ v', e = .returned v' ∧ OwnS w.heap.size w' v' ((os.map partW).map strL) ∧ Below w.heap.size w w' := by
  obtain ⟨i0, hi, hz, hsize, hby⟩ : ∃ i, Tryz.prog.info? 9 = some i ∧ i.zero = some (.string ⟨#[]⟩) ∧ i.size = 1 ∧ i.bytes = 16 := ⟨_, rfl, rfl, rfl, rfl⟩
  have HI := Lib.hid hi
  clear hi
  obtain ⟨p, cp, rfl⟩ := hv.len
  have HV := Lib.hid hv
  obtain ⟨n, hn⟩ : ∃ n, os.length = n := ⟨_, rfl⟩
  have HN := Lib.hid hn
  rw [hn] at hl HV ⊢
  clear hn hv
  go_enter Tryz.func88, Tryz.ntmps88
  go_wp2_with fail
  go_loopg [3, 8] n (fun gg s3 i wr => ∃ (k : Nat) (l : List (List UInt8)), k ≤ n ∧ gg = n - k ∧ i = .int .i64 k ∧ l.length = k ∧ Hid (OwnS w.heap.size wr s3 (l.map strL)) ∧ Hid (Below w.heap.size w wr) ∧ Hid (l = (os.take k).map partW))
  case atStart => exact ⟨0, [], Nat.zero_le _, rfl, rfl, rfl, Lib.hid (OwnS.nil _ _), Lib.hid (Below.refl _ _), Lib.hid rfl⟩
  case round =>
    obtain ⟨k, l, hk, hg, rfl, hll, HO, HB, HA⟩ := hrel
    have hg := hg.symm
    subst hg
    by_cases hlt : k < n
    · obtain ⟨o, ho⟩ : ∃ o, os[k]? = some o := ⟨_, List.getElem?_eq_getElem (by rw [HN.out]; exact hlt)⟩
      obtain ⟨b, cap, e1, h0, h1, c0, c1⟩ := OwnP.at HV.out ho
      rw [HN.out] at e1
      cases e1
      have d0 := keepB HB.out c0 h1
      have d1 := keepB HB.out c1 h1
      have hkI : (k : Int) < (n : Int) := by omega
      have hk0 : (0 : Int) ≤ (k : Int) := by omega
      have hmul : k * 2 = 2 * k := by omega
      have HA2 : Hid (l ++ [partW o] = (os.take (k + 1)).map partW) := Lib.hid (by
        obtain ⟨hi, e⟩ := List.getElem?_eq_some_iff.1 ho
        rw [List.take_succ_eq_append_getElem hi, e, List.map_append, ← HA.out]; rfl)
      obtain ⟨X, hX⟩ : ∃ X, strL (partW o) = X := ⟨_, rfl⟩
      have HX := Lib.hid hX
      rw [hX] at d0
      clear c0 c1 ho hX HA
      go_upto_region 5 with fail
      have HO1 := Lib.hid (HO.out.below ((Below.refl wr.heap.size wr).alloc (Nat.le_refl _) (.cells #[.string X, .pointer (some ⟨g, o, none⟩)] 115)) (Nat.le_refl _))
      have HB1 := Lib.hid (HB.out.alloc HB.out.size (.cells #[.string X, .pointer (some ⟨g, o, none⟩)] 115))
      have KP := Blk.new wr #[.string X, .pointer (some ⟨g, o, none⟩)] 115
      have e0 := KP.cell (i := 0) rfl
      obtain ⟨w1, hw1⟩ : ∃ w1, wr.alloc (.cells #[.string X, .pointer (some ⟨g, o, none⟩)] 115) = w1 := ⟨_, rfl⟩
      rw [hw1] at HO1 HB1 e0 ⊢
      clear hw1 KP d0 d1 HO HB
      go_wp2_with (at_builtin; refine wpList_append_own _ rfl _ _ 67 rfl w.heap.size 9 i0 (.string ⟨#[]⟩) 1 16 Tryz.underlying67 HI.out hz hsize hby rfl (by decide) _ (l.map strL).length ((l.map strL).map Value.string) rfl (HO1.out.below ((Below.refl _ _).alloc (Nat.le_refl _) _) (Nat.le_refl _)) ⟨_, 0, none⟩ 1 1 [.string X] rfl rfl (cell_one_new _ _ _) (by intro u hu; simp at hu; subst hu; rfl) (by unfold maxLen; simp; omega) (by simp; omega) (by have := HB1.out.size; simp; omega) ?_)
      intro v' w4 hown2 hgrow _
      have HO3 := Lib.hid (ownS_mkL (l := l) (b := X) (by rw [hll]; exact hown2))
      have HB3 := Lib.hid (OwnS.gby (HO1.out.below ((Below.refl _ _).alloc (Nat.le_refl _) _) (Nat.le_refl _)) (HB1.out.alloc HB1.out.size _) (by have := HB1.out.size; simp; omega) hgrow)
      clear hown2 hgrow
      rw [← HX.out] at HO3
      go_wp2_with fail
      go_roundg (n - (k + 1))
      case measure => omega
      case rel => exact ⟨k + 1, l ++ [partW o], by omega, rfl, by go_num, by rw [List.length_append, hll]; rfl, Lib.hid (by rw [List.map_append]; exact HO3.out), HB3, HA2⟩
    · obtain rfl : k = n := by omega
      have hF : l = os.map partW := by rw [HA.out, List.take_of_length_le (by rw [HN.out]; exact Nat.le_refl _)]
      have HF := Lib.hid hF
      clear hF HA
      go_wp2_with fail
      go_ret
      exact ⟨_, rfl, by have h := HO.out; rw [HF.out, List.map_map] at h; exact h, HB.out⟩
set_option maxRecDepth 100000 in
set_option maxHeartbeats 2000000 in
theorem phrase_line (l : List Int) (hl : l.length = 8) (hw : wfI l) (w : World) (hL : LaidP w) :
    Calls Tryz.prog 50 #[.agg (cellsI l)] w fun e w' => e = .returned (.tuple #[.string (strL (lineR l).1), .int .i64 (lineR l).2]) ∧ Below w.heap.size w w' := by
  obtain ⟨i0, hi, hz, hsize, hby⟩ : ∃ i, Tryz.prog.info? 3 = some i ∧ i.zero = some (.int .i64 0) ∧ i.size = 1 ∧ i.bytes = 8 := ⟨_, rfl, rfl, rfl, rfl⟩
  have HI := Lib.hid hi
  clear hi
  have hu := Tryz.underlying43
  have HCK := Lib.hid (fun w => event_check l hl w)
  have hk := fun h => (check_kind_p (l := l) h).2
  have hline : checkL l = 0 → lineR l = (rowL (kindW (fld l 0)) (namesW (fld l 0)) (numsL l), 0) := fun h => by unfold lineR; rw [if_pos h]
  have hline2 : checkL l ≠ 0 → lineR l = ([], checkL l) := fun h => by unfold lineR; rw [if_neg h]
  have hni := numsL_in hw
  have hnl := numsL_len l
  have hn5 := (namesW_len (fld l 0)).1
  have hnums : numsL l = (offs (fld l 0)).map (fld l) := rfl
  have hoff := offs_lt (fld l 0)
  obtain ⟨LR, hLR⟩ : ∃ R, lineR l = R := ⟨_, rfl⟩
  rw [hLR] at hline hline2 ⊢
  obtain ⟨LR1, LR2⟩ := LR
  obtain ⟨CK, hCK⟩ : ∃ c, checkL l = c := ⟨_, rfl⟩
  rw [hCK] at HCK hk hline hline2
  have hcells : ∀ o, o < 8 → (cellsI l)[o]? = some (.int .i64 (fld l o)) := fun o ho => cellsI_at (by omega)
  obtain ⟨k, n, j, i, p, x, y, z, hl8⟩ := eight_of hl
  have hk0 : fld l 0 = k := by rw [hl8]; rfl
  have hcell : cellsI l = #[.int .i64 k, .int .i64 n, .int .i64 j, .int .i64 i, .int .i64 p, .int .i64 x, .int .i64 y, .int .i64 z] := by rw [hl8]; rfl
  rw [hk0] at hk hline hnl hn5 hnums hoff
  rw [hcell] at HCK hcells ⊢
  obtain ⟨NS, hNS⟩ : ∃ N, numsL l = N := ⟨_, rfl⟩
  rw [hNS] at hline hni hnl hnums
  generalize fld l = F at hcells hnums
  obtain ⟨n0, hn0⟩ : ∃ n, w.heap.size = n := ⟨_, rfl⟩
  obtain ⟨W, hW⟩ : ∃ W, w.alloc (.cells #[.int .i64 k, .int .i64 n, .int .i64 j, .int .i64 i, .int .i64 p, .int .i64 x, .int .i64 y, .int .i64 z] 43) = W := ⟨_, rfl⟩
  have hb0 : Below n0 w W := by rw [← hW, ← hn0]; exact (Below.refl _ _).alloc (Nat.le_refl _) _
  have K : Blk W n0 #[.int .i64 k, .int .i64 n, .int .i64 j, .int .i64 i, .int .i64 p, .int .i64 x, .int .i64 y, .int .i64 z] 43 := by rw [← hW, ← hn0]; exact Blk.new w _ _
  have HK := Lib.hid K
  have HB := Lib.hid hb0
  have HL := Lib.hid (hL.below (hn0 ▸ hb0))
  have HCA := Lib.hid hcells
  have HW := Lib.hid hW
  have HN0 := Lib.hid hn0
  have HLI := Lib.hid hline
  have HLI2 := Lib.hid hline2
  have HNI := Lib.hid hni
  have HNL := Lib.hid hnl
  have HN5 := Lib.hid hn5
  have HNU := Lib.hid hnums
  have HOF := Lib.hid hoff
  have HKK := Lib.hid hk
  rw [hn0]
  clear hW hb0 K hL hcells hline hline2 hni hnl hn5 hnums hoff hk hLR hCK hl8 hk0 hcell hNS hn0 hw hl
  go_enter Tryz.func50, Tryz.ntmps50
  go_upto_region 1 with fail
  rw [HW.out]
  try rw [HN0.out]
  clear HW
  have c0 := HK.out.cell (i := 0) rfl
  have c1 := HK.out.cell (i := 1) rfl
  have c2 := HK.out.cell (i := 2) rfl
  have c3 := HK.out.cell (i := 3) rfl
  have c4 := HK.out.cell (i := 4) rfl
  have c5 := HK.out.cell (i := 5) rfl
  have c6 := HK.out.cell (i := 6) rfl
  have c7 := HK.out.cell (i := 7) rfl
  go_wp2_with fail
  refine (HCK.out _).mono ?_
  rintro e w1 ⟨rfl, hb1⟩
  clear c0 c1 c2 c3 c4 c5 c6 c7 HCK
  have HK1 := Lib.hid (HK.out.below hb1 HK.out.lt)
  have HL1 := Lib.hid (HL.out.below hb1)
  have HB1 := Lib.hid (HB.out.trans (hb1.mono (by have := HB.out.size; have := HN0.out; have := HK.out.lt; omega)))
  clear hb1 HK HL HB
  by_cases hz0 : CK = 0
  · have hR := HLI.out hz0
    obtain rfl : LR1 = _ := (Prod.mk.inj hR).1
    obtain rfl : LR2 = 0 := (Prod.mk.inj hR).2
    have hk17 := HKK.out hz0
    subst hz0
    have c0 := HK1.out.cell (i := 0) rfl
    clear hR HLI HLI2
    go_wp2_with fail
    refine (phrase_word k w1 HL1.out).mono ?_
    rintro e w2 ⟨rfl, rfl⟩
    go_wp2_with fail
    refine (phrase_parts n0 k hk17 w1 c0).mono ?_
    rintro e w2 ⟨v, rfl, hP, hb2⟩
    obtain ⟨pp, pc, rfl⟩ := hP.len
    have HP := Lib.hid hP
    have HK2 := Lib.hid (HK1.out.below hb2 HK1.out.lt)
    have HL2 := Lib.hid (HL1.out.below hb2)
    have HB2 := Lib.hid (HB1.out.trans (hb2.mono (by have := HK1.out.lt; omega)))
    have hm5 : (offs k).length ≤ 5 := offs_length k
    obtain ⟨m, hm⟩ : ∃ m, (offs k).length = m := ⟨_, rfl⟩
    have HM := Lib.hid hm
    rw [hm] at HP hm5 ⊢
    have HS1 : Hid (n0 < w2.heap.size) := Lib.hid HK2.out.lt
    clear hP hb2 HK1 HL1 HB1 c0 hm
    go_wp2_with fail
    go_loopg [8, 25] m (fun gg s8 i wr => ∃ (q : Nat) (ns : List Int), q ≤ m ∧ gg = m - q ∧ i = .int .i64 q ∧ ns.length = q ∧ Hid (OwnN w2.heap.size wr s8 ns) ∧ Hid (Below w2.heap.size w2 wr) ∧ Hid (ns = ((offs k).take q).map F))
    case atStart => exact ⟨0, [], Nat.zero_le _, rfl, rfl, rfl, Lib.hid (OwnN.nil _ _), Lib.hid (Below.refl _ _), Lib.hid rfl⟩
    case round =>
      obtain ⟨q, ns, hq, hg, rfl, hnl, HO, HBB, HA⟩ := hrel
      have hg := hg.symm
      subst hg
      by_cases hlt : q < m
      · obtain ⟨o, ho⟩ : ∃ o, (offs k)[q]? = some o := ⟨_, List.getElem?_eq_getElem (by rw [HM.out]; exact hlt)⟩
        obtain ⟨b, cap, e1, h0, h1, d0, d1⟩ := OwnP.at HP.out (by exact ho)
        rw [HM.out] at e1
        cases e1
        have e0 := keepB HBB.out d0 h1
        have e1 := keepB HBB.out d1 h1
        have ho8 := HOF.out o (List.mem_of_getElem? ho)
        have hcf := keepB HBB.out (HK2.out.cell (HCA.out o (by omega))) HS1.out
        have hkI : (q : Int) < (m : Int) := by omega
        have hk0 : (0 : Int) ≤ (q : Int) := by omega
        have hmul : q * 2 = 2 * q := by omega
        have HA2 : Hid (ns ++ [F o] = ((offs k).take (q + 1)).map F) := Lib.hid (by
          obtain ⟨hi, e⟩ := List.getElem?_eq_some_iff.1 ho
          rw [List.take_succ_eq_append_getElem hi, e, List.map_append, ← HA.out]; rfl)
        obtain ⟨X, hX⟩ : ∃ X, strL (partW o) = X := ⟨_, rfl⟩
        rw [hX] at e0
        obtain ⟨Z, hZ⟩ : ∃ Z, F o = Z := ⟨_, rfl⟩
        rw [hZ] at hcf HA2
        have hlt3 : n0 < wr.heap.size := by have := HBB.out.size; have := HS1.out; omega
        clear d0 d1 ho hX hZ HA
        go_upto_region 10 with fail
        have HO1 := Lib.hid (HO.out.below ((Below.refl wr.heap.size wr).alloc (Nat.le_refl _) (.cells #[.string X, .pointer (some ⟨n0, o, none⟩)] 115)) (Nat.le_refl _))
        have HBB1 := Lib.hid (HBB.out.alloc HBB.out.size (.cells #[.string X, .pointer (some ⟨n0, o, none⟩)] 115))
        have KP := Blk.new wr #[.string X, .pointer (some ⟨n0, o, none⟩)] 115
        have g1 := KP.cell (i := 1) rfl
        have g2 := keepA hcf (.cells #[.string X, .pointer (some ⟨n0, o, none⟩)] 115)
        obtain ⟨w3, hw3⟩ : ∃ w3, wr.alloc (.cells #[.string X, .pointer (some ⟨n0, o, none⟩)] 115) = w3 := ⟨_, rfl⟩
        rw [hw3] at HO1 HBB1 g1 g2 ⊢
        clear hw3 KP e0 e1 hcf HO HBB
        go_wp2_with (at_builtin; refine wpList_append_own _ rfl _ _ 60 rfl w2.heap.size 3 i0 (.int .i64 0) 1 8 Tryz.underlying60 HI.out hz hsize hby rfl (by decide) _ ns.length (ns.map (Value.int .i64)) rfl (HO1.out.below ((Below.refl _ _).alloc (Nat.le_refl _) _) (Nat.le_refl _)) ⟨_, 0, none⟩ 1 1 [.int .i64 Z] rfl rfl (cell_one_new _ _ _) (by intro u hu; simp at hu; subst hu; rfl) (by unfold maxLen; omega) (by omega) (by have := HBB1.out.size; simp; omega) ?_)
        intro v' w4 hown2 hgrow _
        have HO3 := Lib.hid (OwnN.mk (l := ns) (b := Z) (by rw [hnl]; exact hown2))
        have HB3 := Lib.hid (OwnN.gby (HO1.out.below ((Below.refl _ _).alloc (Nat.le_refl _) _) (Nat.le_refl _)) (HBB1.out.alloc HBB1.out.size _) (by have := HBB1.out.size; simp; omega) hgrow)
        clear hown2 hgrow
        go_wp2_with fail
        go_roundg (m - (q + 1))
        case measure => omega
        case rel => exact ⟨q + 1, ns ++ [Z], by omega, rfl, by go_num, by rw [List.length_append, hnl]; rfl, HO3, HB3, HA2⟩
      · obtain rfl : q = m := by omega
        have hF : ns = NS := by rw [HA.out, List.take_of_length_le (by rw [HM.out]; exact Nat.le_refl _), HNU.out]
        subst hF
        have HRN := Lib.hid HO.out.row
        have HPN := Lib.hid (HP.out.below HBB.out (Nat.le_refl _))
        have HL3 := Lib.hid (HL2.out.below HBB.out)
        have HB3 := Lib.hid (HB2.out.trans (HBB.out.mono (by have := HS1.out; omega)))
        have PN := Lib.hid (fun (wx : World) (h : OwnP w1.heap.size wx (.slice pp q pc) n0 (offs k)) => phrase_names w1.heap.size n0 (offs k) _ wx h (by rw [HM.out]; omega))
        have RL := Lib.hid (fun (wx : World) (vn vi : Value) (h1 : RowS wx vn ((namesW k).map strL)) (h2 : RowN wx vi ns) (h3 : Laid wx) => row_line (kindW k) vn vi (namesW k) ns wx h1 h2 (kindW_len k) (by have := HN5.out; omega) (namesW_len k).2 (by have := HNL.out; have := HN5.out; omega) HNI.out h3)
        clear HA HO HBB HL2 HB2 HP HNI
        go_wp2_with fail
        refine (PN.out _ HPN.out).mono ?_
        rintro e w4 ⟨v4, rfl, h4, hb4⟩
        have hs4 : RowS w4 v4 ((namesW k).map strL) := h4.row
        have HS4 := Lib.hid hs4
        have HRN4 := Lib.hid (HRN.out.below hb4 (Nat.le_refl _))
        have HL4 := Lib.hid (HL3.out.below hb4)
        have HB4 := Lib.hid (HB3.out.trans (hb4.mono (by have := HB3.out.size; have := HN0.out; omega)))
        clear h4 hb4 hs4 HRN HL3 HB3 HPN
        go_wp2_with fail
        refine (RL.out w4 v4 _ HS4.out HRN4.out HL4.out.laid).mono ?_
        rintro e w5 ⟨rfl, hb5⟩
        have HB5 := Lib.hid (HB4.out.trans (hb5.mono (by have := HB4.out.size; have := HN0.out; omega)))
        clear hb5
        go_wp2_with fail
        go_ret2
        exact ⟨rfl, HB5.out⟩
  · have hR := HLI2.out hz0
    obtain rfl : LR1 = [] := (Prod.mk.inj hR).1
    obtain rfl : LR2 = CK := (Prod.mk.inj hR).2
    have hne : (LR2 == 0) = false := by simp [hz0]
    have hne2 : (LR2 != 0) = true := by simp [hz0]
    clear hR HLI HLI2
    go_wp2_with fail
    go_ret2
    exact ⟨rfl, HB1.out⟩
end Go.Proofs.YtanihdpgblkeaaaGreatDoor
