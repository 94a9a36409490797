/-
  Messages as texts (reeve's layer 36): texts of many lines: ParseAll.
-/
import Derived.Test.YtanihdpgblkeaaaGreatDoorLetterText
import Derived.Test.YtanihdpgblkeaaaGreatDoorLetterRefParse
namespace Go.Proofs.YtanihdpgblkeaaaGreatDoor
open Go.RowKit
set_option linter.unusedVariables false
set_option linter.unusedSimpArgs false

theorem refW_nonempty_letter (s : List UInt8) : ∀ w, ∀ y ∈ refW w s, y ≠ [] := by
  induction s with
  | nil =>
    intro w y hy
    unfold refW at hy
    by_cases hw : w = []
    · simp [hw] at hy
    · simp [hw] at hy; rw [hy]; exact hw
  | cons c r ih =>
    intro w y hy
    unfold refW at hy
    by_cases hw : w = []
    · simp only [hw, if_true] at hy
      split at hy
      · simp at hy
      · split at hy
        · exact ih _ y hy
        · exact ih _ y hy
    · simp only [hw, if_false] at hy
      split at hy
      · simp at hy; rw [hy]; exact hw
      · split at hy
        · rcases List.mem_cons.1 hy with rfl | h
          · exact hw
          · exact ih _ y h
        · exact ih _ y hy
theorem wordR_empty_letter (s : List UInt8) : (strL (wordR (wordsL s))).toList.isEmpty = decide (wordsL s = []) := by
  rw [ByteArray.toList_eq, strL_list]
  have h := refW_nonempty_letter s []
  unfold wordR wordsL
  cases hr : refW [] s with
  | nil => rfl
  | cons y t =>
    rw [hr] at h
    have := h y (by simp)
    cases y with
    | nil => exact absurd rfl this
    | cons a b => simp
theorem refL_mem_letter (s : List UInt8) : ∀ (line : List UInt8) (o : Bool), ∀ x ∈ refL line o s, x.length ≤ line.length + s.length := by
  induction s with
  | nil =>
    intro line o x hx
    unfold refL at hx
    cases o
    · simp at hx
    · simp at hx; rw [hx]; exact Nat.le_add_right _ _
  | cons c r ih =>
    intro line o x hx
    unfold refL at hx
    rw [List.length_cons]
    split at hx
    · rcases List.mem_cons.1 hx with rfl | h
      · exact Nat.le_add_right _ _
      · have := ih _ _ x h; simp at this; omega
    · have := ih _ _ x hx; simp at this; omega
theorem line_len_letter (s : List UInt8) : ∀ x ∈ linesL s, x.length ≤ s.length := fun x hx => by have := refL_mem_letter s [] false x hx; simpa using this
set_option maxRecDepth 50000 in
set_option maxHeartbeats 3200000 in
theorem letter_all (s : ByteArray) (hs : s.size ≤ 50000) (w : World) (hP : LaidL w) :
    Calls Tryz.prog 25 #[.string s] w fun e w' => ∃ v, e = .returned (.tuple #[v, .int .i64 (allG parseM [] 0 (linesL s.data.toList)).2.1, .int .i64 (allG parseM [] 0 (linesL s.data.toList)).2.2]) ∧ OwnM 25 12 w.heap.size w' v (allG parseM [] 0 (linesL s.data.toList)).1 ∧ (∀ l ∈ (allG parseM [] 0 (linesL s.data.toList)).1, l.length = 12) ∧ Below w.heap.size w w' := by
  obtain ⟨i0, z0, hi, hz, hsize, hby, hz0⟩ : ∃ i z, Tryz.prog.info? 25 = some i ∧ i.zero = some z ∧ i.size = 12 ∧ i.bytes = 96 ∧ z.cells.size = 12 := ⟨_, _, rfl, rfl, rfl, rfl, rfl⟩
  have HI := Lib.hid hi
  clear hi
  have hzl : s.data.toList.length = s.size := (Lib.size_eq s).symm
  have hll := line_len_letter s.data.toList
  have hln := refL_len s.data.toList [] false
  have WL := words_lines s (by omega) w
  obtain ⟨LS, hLS⟩ : ∃ l, linesL s.data.toList = l := ⟨_, rfl⟩
  rw [hLS] at hll WL ⊢
  have hln2 : LS.length ≤ s.size + 1 := by rw [← hLS, ← hzl]; exact hln
  obtain ⟨RT, hRT⟩ : ∃ R, allG parseM [] 0 LS = R := ⟨_, rfl⟩
  rw [hRT]
  obtain ⟨R1, R2, R3⟩ := RT
  simp only
  have HRT : Hid (allG parseM [] 0 (LS.drop 0) = (R1, R2, R3)) := Lib.hid hRT
  have HLL := Lib.hid hll
  have WLH := Lib.hid WL
  have HP := Lib.hid hP
  clear hll hln hzl hLS hRT WL hP
  go_enter Tryz.func25, Tryz.ntmps25
  go_wp2_with fail
  refine WLH.out.mono ?_
  rintro e w1 ⟨vl, rfl, hr1, hb1⟩
  have HB1 := Lib.hid hb1
  have HR1 := Lib.hid hr1
  obtain ⟨p, cap, rfl⟩ := HR1.out.len
  rw [List.length_map] at *
  obtain ⟨n, hnn⟩ : ∃ n, LS.length = n := ⟨_, rfl⟩
  have hbv : ∀ j, j < n → ∃ b off cp x, (Value.slice p n cap) = .slice (some ⟨b, off, none⟩) n cp ∧ LS[j]? = some x ∧ w1.cell? ⟨b, off + j, none⟩ = some (.string (strL x)) ∧ b < w1.heap.size := by
    intro j hj
    rcases HR1.out with ⟨_, _, _, h0⟩ | ⟨b, off, cp, e1, hb, hc, _⟩
    · have : LS = [] := by simpa using h0
      rw [this] at hnn; simp at hnn; omega
    · rw [List.length_map] at e1
      have hj' : j < LS.length := by omega
      refine ⟨b, off, cp, LS[j], ?_, List.getElem?_eq_getElem hj', hc j _ (by rw [List.getElem?_map, List.getElem?_eq_getElem hj']; rfl), hb⟩
      rw [hnn] at e1; exact e1
  have HBV := Lib.hid hbv
  have HN := Lib.hid hnn
  rw [hnn] at hln2 ⊢
  clear hr1 hb1 hbv hnn HR1 WLH
  go_wp2_with fail
  go_loopg [5, 13] n (fun gg s5 six wr => ∃ (i : Nat) (acc : List (List Int)), i ≤ n ∧ gg = n - i ∧ six = .int .i64 i ∧ acc.length ≤ i ∧ Hid (∀ l ∈ acc, l.length = 12) ∧ Hid (OwnM 25 12 w1.heap.size wr s5 acc) ∧ Hid (Below w1.heap.size w1 wr) ∧ Hid (allG parseM acc i (LS.drop i) = (R1, R2, R3)))
  case atStart => exact ⟨0, [], by omega, rfl, rfl, Nat.le_refl _, Lib.hid (by intro x hx; cases hx), Lib.hid (OwnM.nil _ _ _ _), Lib.hid (Below.refl _ _), HRT⟩
  case round =>
    clear HRT
    obtain ⟨i, acc, hi', hg, rfl, hal, HX, HO, HC, HA⟩ := hrel
    have hg := hg.symm
    subst hg
    by_cases hlt : i < n
    · obtain ⟨b, off, cp, x, e1, hx, hc, hbl⟩ := HBV.out i hlt
      cases e1
      have hdrop : LS.drop i = x :: LS.drop (i + 1) := by
        obtain ⟨h1, h2⟩ := List.getElem?_eq_some_iff.1 hx
        rw [List.drop_eq_getElem_cons h1, h2]
      have hA := HA.out
      rw [hdrop] at hA
      unfold allG at hA
      have hxl := HLL.out x (List.mem_of_getElem? hx)
      have hxs : (strL x).size ≤ 50000 := by rw [strL_size]; rw [Lib.size_eq] at hs; omega
      have k0 : wr.cell? ⟨b, off + i, none⟩ = some (.string (strL x)) := keepB HC.out hc hbl
      have hiI : (i : Int) < (n : Int) := by omega
      have hi0 : (0 : Int) ≤ (i : Int) := by omega
      have WW := fun wx => row_word (strL x) (by omega) wx
      have PP := fun wx h => letter_parse (strL x) hxs wx h
      have hwe := wordR_empty_letter x
      rw [strL_list] at WW PP
      have hpl := parseM_length (wordsL x)
      generalize parseM (wordsL x) = PR at PP hA hpl
      obtain ⟨PV, PE⟩ := PR
      simp only at PP hA hpl
      obtain ⟨X, hX⟩ : ∃ s, strL x = s := ⟨_, rfl⟩
      rw [hX] at k0 WW PP hc
      have HCL := Lib.hid hc
      have WWH := Lib.hid WW
      by_cases h0 : wordsL x = []
      · have HA2 : Hid (allG parseM acc (i + 1) (LS.drop (i + 1)) = (R1, R2, R3)) := Lib.hid (by rw [← hA, if_pos h0])
        have hw0 : (strL (wordR (wordsL x))).toList.isEmpty = true := by rw [hwe]; exact decide_eq_true h0
        clear hx hc hdrop hA hxl hxs WW PP hX HA hpl hwe
        generalize strL (wordR (wordsL x)) = WD at WWH hw0
        go_wp2_with fail
        refine (WWH.out _).mono ?_
        rintro e w2 ⟨rfl, hb2⟩
        have HC2 := Lib.hid (HC.out.trans (hb2.mono HC.out.size))
        have HO2 := Lib.hid (HO.out.below hb2 (Nat.le_refl _))
        clear hb2 WWH
        go_wp2_with fail
        go_roundg (n - (i + 1))
        case measure => omega
        case rel => exact ⟨i + 1, acc, by omega, rfl, by go_num, by omega, HX, HO2, HC2, HA2⟩
      · have hA1 : (if PE = 0 then allG parseM (acc ++ [PV]) (i + 1) (LS.drop (i + 1)) else ([], (i : Int), PE)) = (R1, R2, R3) := by rw [← hA, if_neg h0]
        have HA1 := Lib.hid hA1
        have HPL := Lib.hid hpl
        obtain ⟨d0, d1, d2, d3, d4, d5, d6, d7, d8, d9, d10, d11, rfl⟩ := twelve_of hpl
        have PPH : Hid (∀ wx, LaidL wx → Calls Tryz.prog 11 #[.string X] wx fun e w' => e = .returned (.tuple #[.agg #[.int .i64 d0, .int .i64 d1, .int .i64 d2, .int .i64 d3, .int .i64 d4, .int .i64 d5, .int .i64 d6, .int .i64 d7, .int .i64 d8, .int .i64 d9, .int .i64 d10, .int .i64 d11], .int .i64 PE]) ∧ Below wx.heap.size wx w') := Lib.hid PP
        clear hx hdrop hA hA1 hxl hxs WW PP hX HA hpl
        have hw0 : (strL (wordR (wordsL x))).toList.isEmpty = false := by rw [hwe]; exact decide_eq_false h0
        clear hwe
        generalize strL (wordR (wordsL x)) = WD at WWH hw0
        go_wp2_with fail
        refine (WWH.out _).mono ?_
        rintro e w2 ⟨rfl, hb2⟩
        have HC2 := Lib.hid (HC.out.trans (hb2.mono HC.out.size))
        have HO2 := Lib.hid (HO.out.below hb2 (Nat.le_refl _))
        clear hb2 WWH HC HO k0
        go_wp2_with fail
        refine (PPH.out _ (HP.out.below (HB1.out.trans (HC2.out.mono HB1.out.size)))).mono ?_
        rintro e w3 ⟨rfl, hb3⟩
        have HC4 := Lib.hid ((HC2.out.trans (hb3.mono HC2.out.size)).alloc (by have := HC2.out.size; have := hb3.size; omega) (.cells #[.int .i64 d0, .int .i64 d1, .int .i64 d2, .int .i64 d3, .int .i64 d4, .int .i64 d5, .int .i64 d6, .int .i64 d7, .int .i64 d8, .int .i64 d9, .int .i64 d10, .int .i64 d11] 25))
        have HO4 := Lib.hid ((HO2.out.below hb3 (Nat.le_refl _)).below ((Below.refl _ _).alloc (Nat.le_refl _) (.cells #[.int .i64 d0, .int .i64 d1, .int .i64 d2, .int .i64 d3, .int .i64 d4, .int .i64 d5, .int .i64 d6, .int .i64 d7, .int .i64 d8, .int .i64 d9, .int .i64 d10, .int .i64 d11] 25)) (Nat.le_refl _))
        have VW := Lib.hid (Blk.new w3 #[.int .i64 d0, .int .i64 d1, .int .i64 d2, .int .i64 d3, .int .i64 d4, .int .i64 d5, .int .i64 d6, .int .i64 d7, .int .i64 d8, .int .i64 d9, .int .i64 d10, .int .i64 d11] 25)
        clear hb3 HC2 HO2 PPH
        go_upto_region 7 with fail
        obtain ⟨W, hW⟩ : ∃ W, w3.alloc (.cells #[.int .i64 d0, .int .i64 d1, .int .i64 d2, .int .i64 d3, .int .i64 d4, .int .i64 d5, .int .i64 d6, .int .i64 d7, .int .i64 d8, .int .i64 d9, .int .i64 d10, .int .i64 d11] 25) = W := ⟨_, rfl⟩
        rw [hW] at HC4 HO4 VW ⊢
        obtain ⟨g, hgg⟩ : ∃ g, w3.heap.size = g := ⟨_, rfl⟩
        rw [hgg] at VW ⊢
        clear hW hgg
        by_cases hpe : PE = 0
        · subst hpe
          have HA3 : Hid (allG parseM (acc ++ [[d0, d1, d2, d3, d4, d5, d6, d7, d8, d9, d10, d11]]) (i + 1) (LS.drop (i + 1)) = (R1, R2, R3)) := Lib.hid (by rw [← HA1.out, if_pos rfl])
          clear HA1
          have c0 := VW.out.cell (i := 0) rfl
          have c1 := VW.out.cell (i := 1) rfl
          have c2 := VW.out.cell (i := 2) rfl
          have c3 := VW.out.cell (i := 3) rfl
          have c4 := VW.out.cell (i := 4) rfl
          have c5 := VW.out.cell (i := 5) rfl
          have c6 := VW.out.cell (i := 6) rfl
          have c7 := VW.out.cell (i := 7) rfl
          have c8 := VW.out.cell (i := 8) rfl
          have c9 := VW.out.cell (i := 9) rfl
          have c10 := VW.out.cell (i := 10) rfl
          have c11 := VW.out.cell (i := 11) rfl
          go_wp2_with (at_builtin; refine wpList_append_own _ rfl _ _ 47 rfl w1.heap.size 25 i0 z0 12 96 Tryz.underlying47 HI.out hz hsize hby hz0 (by decide) _ acc.length (cellsLL acc) rfl (HO4.out.below ((Below.refl _ _).alloc (Nat.le_refl _) _) (Nat.le_refl _)) ⟨_, 0, none⟩ 1 1 ([d0, d1, d2, d3, d4, d5, d6, d7, d8, d9, d10, d11].map (Value.int .i64)) rfl (by simp) (cells_new _ _ [d0, d1, d2, d3, d4, d5, d6, d7, d8, d9, d10, d11]) (one_cells [d0, d1, d2, d3, d4, d5, d6, d7, d8, d9, d10, d11]) (by unfold maxLen; omega) (by omega) (by have := HC4.out.size; simp; omega) ?_)
          intro v' w5 hown2 hgrow _
          have HO5 := Lib.hid (OwnM.mk (l := [d0, d1, d2, d3, d4, d5, d6, d7, d8, d9, d10, d11]) (by exact hown2))
          have HC5 := Lib.hid (OwnM.gby (HO4.out.below ((Below.refl _ _).alloc (Nat.le_refl _) _) (Nat.le_refl _)) (HC4.out.alloc HC4.out.size _) (by have := HC4.out.size; simp; omega) hgrow)
          clear hown2 hgrow
          go_wp2_with fail
          go_roundg (n - (i + 1))
          case measure => omega
          case rel => exact ⟨i + 1, acc ++ [[d0, d1, d2, d3, d4, d5, d6, d7, d8, d9, d10, d11]], by omega, rfl, by go_num, by rw [List.length_append]; simp; omega, Lib.hid (by intro x hx; rcases List.mem_append.1 hx with h | h; exact HX.out x h; rw [List.mem_singleton] at h; rw [h]; rfl), HO5, HC5, HA3⟩
        · have hne : (PE == 0) = false := by rw [beq_eq_false_iff_ne]; exact hpe
          have HF : Hid ((R1, R2, R3) = ([], (i : Int), PE)) := Lib.hid (by rw [← HA1.out, if_neg hpe])
          clear HA1 hpe hc h0
          go_wp2_with fail
          go_ret3
          refine ⟨_, by rw [(Prod.mk.inj (Prod.mk.inj HF.out).2).1, (Prod.mk.inj (Prod.mk.inj HF.out).2).2]; rfl, ?_, ?_, HB1.out.trans (HC4.out.mono HB1.out.size)⟩
          · rw [(Prod.mk.inj HF.out).1]; exact OwnM.nil _ _ _ _
          · rw [(Prod.mk.inj HF.out).1]; intro x hx; cases hx
    · obtain rfl : i = n := by omega
      have HF : Hid ((R1, R2, R3) = (acc, 0, 0)) := Lib.hid (by rw [← HA.out, List.drop_eq_nil_of_le (by rw [HN.out]; exact Nat.le_refl _)]; rfl)
      clear HA
      go_wp2_with fail
      go_ret3
      refine ⟨_, by rw [(Prod.mk.inj (Prod.mk.inj HF.out).2).1, (Prod.mk.inj (Prod.mk.inj HF.out).2).2]; rfl, ?_, ?_, HB1.out.trans (HC.out.mono HB1.out.size)⟩
      · rw [(Prod.mk.inj HF.out).1]; exact HO.out.mono HB1.out.size
      · rw [(Prod.mk.inj HF.out).1]; exact HX.out
set_option maxRecDepth 50000 in
set_option maxHeartbeats 3200000 in
theorem ref36_all (s : ByteArray) (hs : s.size ≤ 50000) (w : World) :
    Calls Tryz.prog 26 #[.string s] w fun e w' => ∃ v, e = .returned (.tuple #[v, .int .i64 (allG parseM [] 0 (linesL s.data.toList)).2.1, .int .i64 (allG parseM [] 0 (linesL s.data.toList)).2.2]) ∧ OwnM 25 12 w.heap.size w' v (allG parseM [] 0 (linesL s.data.toList)).1 ∧ (∀ l ∈ (allG parseM [] 0 (linesL s.data.toList)).1, l.length = 12) ∧ Below w.heap.size w w' := by
  obtain ⟨i0, z0, hi, hz, hsize, hby, hz0⟩ : ∃ i z, Tryz.prog.info? 25 = some i ∧ i.zero = some z ∧ i.size = 12 ∧ i.bytes = 96 ∧ z.cells.size = 12 := ⟨_, _, rfl, rfl, rfl, rfl, rfl⟩
  have HI := Lib.hid hi
  clear hi
  have hzl : s.data.toList.length = s.size := (Lib.size_eq s).symm
  have hll := line_len_letter s.data.toList
  have hln := refL_len s.data.toList [] false
  have WL := ref06_lines s (by omega) w
  obtain ⟨LS, hLS⟩ : ∃ l, linesL s.data.toList = l := ⟨_, rfl⟩
  rw [hLS] at hll WL ⊢
  have hln2 : LS.length ≤ s.size + 1 := by rw [← hLS, ← hzl]; exact hln
  obtain ⟨RT, hRT⟩ : ∃ R, allG parseM [] 0 LS = R := ⟨_, rfl⟩
  rw [hRT]
  obtain ⟨R1, R2, R3⟩ := RT
  simp only
  have HRT : Hid (allG parseM [] 0 (LS.drop 0) = (R1, R2, R3)) := Lib.hid hRT
  have HLL := Lib.hid hll
  have WLH := Lib.hid WL
  clear hll hln hzl hLS hRT WL
  go_enter Tryz.func26, Tryz.ntmps26
  go_wp2_with fail
  refine WLH.out.mono ?_
  rintro e w1 ⟨vl, rfl, hr1, hb1⟩
  have HB1 := Lib.hid hb1
  have HR1 := Lib.hid hr1.row
  obtain ⟨p, cap, rfl⟩ := HR1.out.len
  rw [List.length_map] at *
  obtain ⟨n, hnn⟩ : ∃ n, LS.length = n := ⟨_, rfl⟩
  have hbv : ∀ j, j < n → ∃ b off cp x, (Value.slice p n cap) = .slice (some ⟨b, off, none⟩) n cp ∧ LS[j]? = some x ∧ w1.cell? ⟨b, off + j, none⟩ = some (.string (strL x)) ∧ b < w1.heap.size := by
    intro j hj
    rcases HR1.out with ⟨_, _, _, h0⟩ | ⟨b, off, cp, e1, hb, hc, _⟩
    · have : LS = [] := by simpa using h0
      rw [this] at hnn; simp at hnn; omega
    · rw [List.length_map] at e1
      have hj' : j < LS.length := by omega
      refine ⟨b, off, cp, LS[j], ?_, List.getElem?_eq_getElem hj', hc j _ (by rw [List.getElem?_map, List.getElem?_eq_getElem hj']; rfl), hb⟩
      rw [hnn] at e1; exact e1
  have HBV := Lib.hid hbv
  have HN := Lib.hid hnn
  rw [hnn] at hln2 ⊢
  clear hr1 hb1 hbv hnn HR1 WLH
  go_wp2_with fail
  go_loopg [5, 7] n (fun gg s5 six wr => ∃ (i : Nat) (acc : List (List Int)), i ≤ n ∧ gg = n - i ∧ six = .int .i64 i ∧ acc.length ≤ i ∧ Hid (∀ l ∈ acc, l.length = 12) ∧ Hid (OwnM 25 12 w1.heap.size wr s5 acc) ∧ Hid (Below w1.heap.size w1 wr) ∧ Hid (allG parseM acc i (LS.drop i) = (R1, R2, R3)))
  case atStart => exact ⟨0, [], by omega, rfl, rfl, Nat.le_refl _, Lib.hid (by intro x hx; cases hx), Lib.hid (OwnM.nil _ _ _ _), Lib.hid (Below.refl _ _), HRT⟩
  case round =>
    clear HRT
    obtain ⟨i, acc, hi', hg, rfl, hal, HX, HO, HC, HA⟩ := hrel
    have hg := hg.symm
    subst hg
    by_cases hlt : i < n
    · obtain ⟨b, off, cp, x, e1, hx, hc, hbl⟩ := HBV.out i hlt
      cases e1
      have hdrop : LS.drop i = x :: LS.drop (i + 1) := by
        obtain ⟨h1, h2⟩ := List.getElem?_eq_some_iff.1 hx
        rw [List.drop_eq_getElem_cons h1, h2]
      have hA := HA.out
      rw [hdrop] at hA
      unfold allG at hA
      have hxl := HLL.out x (List.mem_of_getElem? hx)
      have hxs : (strL x).size ≤ 50000 := by rw [strL_size]; rw [Lib.size_eq] at hs; omega
      have k0 : wr.cell? ⟨b, off + i, none⟩ = some (.string (strL x)) := keepB HC.out hc hbl
      have hiI : (i : Int) < (n : Int) := by omega
      have hi0 : (0 : Int) ≤ (i : Int) := by omega
      have WW := fun wx => ref06_words (strL x) (by omega) wx
      have PP := fun wx => ref36_parse (strL x) hxs wx
      rw [strL_list] at WW PP
      have hpl := parseM_length (wordsL x)
      generalize parseM (wordsL x) = PR at PP hA hpl
      obtain ⟨PV, PE⟩ := PR
      simp only at PP hA hpl
      obtain ⟨X, hX⟩ : ∃ s, strL x = s := ⟨_, rfl⟩
      rw [hX] at k0 WW PP hc
      have HCL := Lib.hid hc
      have WWH := Lib.hid WW
      by_cases h0 : wordsL x = []
      · have HA2 : Hid (allG parseM acc (i + 1) (LS.drop (i + 1)) = (R1, R2, R3)) := Lib.hid (by rw [← hA, if_pos h0])
        clear hx hc hdrop hA hxl hxs WW PP hX HA hpl
        go_wp2_with fail
        refine (WWH.out _).mono ?_
        rintro e w2 ⟨v2, rfl, hr2, hb2⟩
        obtain ⟨p2, cap2, rfl⟩ := hr2.row.len
        have hl2 : (List.map strL (wordsL x)).length = 0 := by rw [h0]; rfl
        rw [hl2]
        have HC2 := Lib.hid (HC.out.trans (hb2.mono HC.out.size))
        have HO2 := Lib.hid (HO.out.below hb2 (Nat.le_refl _))
        clear hb2 WWH
        go_wp2_with fail
        go_roundg (n - (i + 1))
        case measure => omega
        case rel => exact ⟨i + 1, acc, by omega, rfl, by go_num, by omega, HX, HO2, HC2, HA2⟩
      · have hA1 : (if PE = 0 then allG parseM (acc ++ [PV]) (i + 1) (LS.drop (i + 1)) else ([], (i : Int), PE)) = (R1, R2, R3) := by rw [← hA, if_neg h0]
        have HA1 := Lib.hid hA1
        have HPL := Lib.hid hpl
        obtain ⟨d0, d1, d2, d3, d4, d5, d6, d7, d8, d9, d10, d11, rfl⟩ := twelve_of hpl
        have PPH : Hid (∀ wx, Calls Tryz.prog 12 #[.string X] wx fun e w' => e = .returned (.tuple #[.agg #[.int .i64 d0, .int .i64 d1, .int .i64 d2, .int .i64 d3, .int .i64 d4, .int .i64 d5, .int .i64 d6, .int .i64 d7, .int .i64 d8, .int .i64 d9, .int .i64 d10, .int .i64 d11], .int .i64 PE]) ∧ Below wx.heap.size wx w') := Lib.hid PP
        clear hx hdrop hA hA1 hxl hxs WW PP hX HA hpl
        have hl2 : (List.map strL (wordsL x)).length ≠ 0 := by rw [List.length_map]; intro e; exact h0 (List.eq_nil_of_length_eq_zero e)
        go_wp2_with fail
        refine (WWH.out _).mono ?_
        rintro e w2 ⟨v2, rfl, hr2, hb2⟩
        obtain ⟨p2, cap2, rfl⟩ := hr2.row.len
        generalize (List.map strL (wordsL x)).length = l2 at hl2 hr2 ⊢
        have hl3 : ((l2 : Int) == 0) = false := by rw [beq_eq_false_iff_ne]; omega
        have HC2 := Lib.hid (HC.out.trans (hb2.mono HC.out.size))
        have HO2 := Lib.hid (HO.out.below hb2 (Nat.le_refl _))
        clear hb2 WWH HC HO k0
        have k0 : w2.cell? ⟨b, off + i, none⟩ = some (.string X) := keepB HC2.out HCL.out hbl
        go_wp2_with fail
        refine (PPH.out _).mono ?_
        rintro e w3 ⟨rfl, hb3⟩
        have HC4 := Lib.hid ((HC2.out.trans (hb3.mono HC2.out.size)).alloc (by have := HC2.out.size; have := hb3.size; omega) (.cells #[.int .i64 d0, .int .i64 d1, .int .i64 d2, .int .i64 d3, .int .i64 d4, .int .i64 d5, .int .i64 d6, .int .i64 d7, .int .i64 d8, .int .i64 d9, .int .i64 d10, .int .i64 d11] 25))
        have HO4 := Lib.hid ((HO2.out.below hb3 (Nat.le_refl _)).below ((Below.refl _ _).alloc (Nat.le_refl _) (.cells #[.int .i64 d0, .int .i64 d1, .int .i64 d2, .int .i64 d3, .int .i64 d4, .int .i64 d5, .int .i64 d6, .int .i64 d7, .int .i64 d8, .int .i64 d9, .int .i64 d10, .int .i64 d11] 25)) (Nat.le_refl _))
        have VW := Lib.hid (Blk.new w3 #[.int .i64 d0, .int .i64 d1, .int .i64 d2, .int .i64 d3, .int .i64 d4, .int .i64 d5, .int .i64 d6, .int .i64 d7, .int .i64 d8, .int .i64 d9, .int .i64 d10, .int .i64 d11] 25)
        clear hb3 HC2 HO2 PPH
        go_upto_region 8 with fail
        obtain ⟨W, hW⟩ : ∃ W, w3.alloc (.cells #[.int .i64 d0, .int .i64 d1, .int .i64 d2, .int .i64 d3, .int .i64 d4, .int .i64 d5, .int .i64 d6, .int .i64 d7, .int .i64 d8, .int .i64 d9, .int .i64 d10, .int .i64 d11] 25) = W := ⟨_, rfl⟩
        rw [hW] at HC4 HO4 VW ⊢
        obtain ⟨g, hgg⟩ : ∃ g, w3.heap.size = g := ⟨_, rfl⟩
        rw [hgg] at VW ⊢
        clear hW hgg
        by_cases hpe : PE = 0
        · subst hpe
          have HA3 : Hid (allG parseM (acc ++ [[d0, d1, d2, d3, d4, d5, d6, d7, d8, d9, d10, d11]]) (i + 1) (LS.drop (i + 1)) = (R1, R2, R3)) := Lib.hid (by rw [← HA1.out, if_pos rfl])
          clear HA1
          have c0 := VW.out.cell (i := 0) rfl
          have c1 := VW.out.cell (i := 1) rfl
          have c2 := VW.out.cell (i := 2) rfl
          have c3 := VW.out.cell (i := 3) rfl
          have c4 := VW.out.cell (i := 4) rfl
          have c5 := VW.out.cell (i := 5) rfl
          have c6 := VW.out.cell (i := 6) rfl
          have c7 := VW.out.cell (i := 7) rfl
          have c8 := VW.out.cell (i := 8) rfl
          have c9 := VW.out.cell (i := 9) rfl
          have c10 := VW.out.cell (i := 10) rfl
          have c11 := VW.out.cell (i := 11) rfl
          go_wp2_with (at_builtin; refine wpList_append_own _ rfl _ _ 47 rfl w1.heap.size 25 i0 z0 12 96 Tryz.underlying47 HI.out hz hsize hby hz0 (by decide) _ acc.length (cellsLL acc) rfl (HO4.out.below ((Below.refl _ _).alloc (Nat.le_refl _) _) (Nat.le_refl _)) ⟨_, 0, none⟩ 1 1 ([d0, d1, d2, d3, d4, d5, d6, d7, d8, d9, d10, d11].map (Value.int .i64)) rfl (by simp) (cells_new _ _ [d0, d1, d2, d3, d4, d5, d6, d7, d8, d9, d10, d11]) (one_cells [d0, d1, d2, d3, d4, d5, d6, d7, d8, d9, d10, d11]) (by unfold maxLen; omega) (by omega) (by have := HC4.out.size; simp; omega) ?_)
          intro v' w5 hown2 hgrow _
          have HO5 := Lib.hid (OwnM.mk (l := [d0, d1, d2, d3, d4, d5, d6, d7, d8, d9, d10, d11]) (by exact hown2))
          have HC5 := Lib.hid (OwnM.gby (HO4.out.below ((Below.refl _ _).alloc (Nat.le_refl _) _) (Nat.le_refl _)) (HC4.out.alloc HC4.out.size _) (by have := HC4.out.size; simp; omega) hgrow)
          clear hown2 hgrow
          go_wp2_with fail
          go_roundg (n - (i + 1))
          case measure => omega
          case rel => exact ⟨i + 1, acc ++ [[d0, d1, d2, d3, d4, d5, d6, d7, d8, d9, d10, d11]], by omega, rfl, by go_num, by rw [List.length_append]; simp; omega, Lib.hid (by intro x hx; rcases List.mem_append.1 hx with h | h; exact HX.out x h; rw [List.mem_singleton] at h; rw [h]; rfl), HO5, HC5, HA3⟩
        · have hne : (PE == 0) = false := by rw [beq_eq_false_iff_ne]; exact hpe
          have HF : Hid ((R1, R2, R3) = ([], (i : Int), PE)) := Lib.hid (by rw [← HA1.out, if_neg hpe])
          clear HA1 hpe hc h0
          go_wp2_with fail
          go_ret3
          refine ⟨_, by rw [(Prod.mk.inj (Prod.mk.inj HF.out).2).1, (Prod.mk.inj (Prod.mk.inj HF.out).2).2]; rfl, ?_, ?_, HB1.out.trans (HC4.out.mono HB1.out.size)⟩
          · rw [(Prod.mk.inj HF.out).1]; exact OwnM.nil _ _ _ _
          · rw [(Prod.mk.inj HF.out).1]; intro x hx; cases hx
    · obtain rfl : i = n := by omega
      have HF : Hid ((R1, R2, R3) = (acc, 0, 0)) := Lib.hid (by rw [← HA.out, List.drop_eq_nil_of_le (by rw [HN.out]; exact Nat.le_refl _)]; rfl)
      clear HA
      go_wp2_with fail
      go_ret3
      refine ⟨_, by rw [(Prod.mk.inj (Prod.mk.inj HF.out).2).1, (Prod.mk.inj (Prod.mk.inj HF.out).2).2]; rfl, ?_, ?_, HB1.out.trans (HC.out.mono HB1.out.size)⟩
      · rw [(Prod.mk.inj HF.out).1]; exact HO.out.mono HB1.out.size
      · rw [(Prod.mk.inj HF.out).1]; exact HX.out
end Go.Proofs.YtanihdpgblkeaaaGreatDoor
