/-
  Messages as texts (reeve's layer 36): texts of many lines: the walk of the statement LetterBack.
-/
import Derived.Test.YtanihdpgblkeaaaGreatDoorLetterAll
import Derived.Test.YtanihdpgblkeaaaGreatDoorAwake36
import Derived.Test.YtanihdpgblkeaaaGreatDoorLetterLaid
namespace Go.Proofs.YtanihdpgblkeaaaGreatDoor
open Go.RowKit
set_option linter.unusedVariables false
set_option linter.unusedSimpArgs false

theorem wf_lay_letter {l : List Int} (h : wfI l) : ∀ (os : List Nat) (d : List Int), wfI d → wfI (lay l os d) := by
  intro os
  induction os with
  | nil => intro d hd; exact hd
  | cons o r ih =>
    intro d hd
    refine ih (d.set o (fld l o)) (fun x hx => ?_)
    rcases List.mem_or_eq_of_mem_set hx with h1 | rfl
    · exact hd x h1
    · exact WalkArith.wf_i64 (wfI_fld h o)
theorem wf_cons_letter {a : Int} {l : List Int} (h : (Lit.int .i64 a).wf = true) (hl : wfI l) : wfI (a :: l) := by
  intro x hx
  rcases List.mem_cons.1 hx with rfl | h2
  · exact h
  · exact hl x h2
theorem wf_fld_letter {l : List Int} (h : wfI l) (i : Nat) : (Lit.int .i64 (fld l i)).wf = true := WalkArith.wf_i64 (wfI_fld h i)
theorem wf_pureM (l : List Int) (h : wfI l) : wfI (pureM l) := by
  unfold pureM
  split
  · unfold wfI; decide
  · refine wf_lay_letter h _ _ ?_
    unfold bare3
    exact wf_cons_letter (wf_fld_letter h 0) (wf_cons_letter (wf_fld_letter h 1) (wf_cons_letter (wf_fld_letter h 2) (by unfold wfI; decide)))
set_option maxRecDepth 100000 in
set_option maxHeartbeats 6400000 in
theorem walk_LetterBack (l : Option Addr) (len cap : Nat) (w : World) (w0 : IsFlat [.int .i64, .int .i64, .int .i64, .int .i64, .int .i64, .int .i64, .int .i64, .int .i64, .int .i64, .int .i64, .int .i64, .int .i64] w l len cap) (hl : laidMetH Tryz.prog Rows.letterBackRow.laid w) :
    Calls Tryz.prog 7 #[.slice l len cap] w fun e w' => e = .returned (.bool true) ∧ Below w.heap.size w w' := by
  have hl0 : len ≤ maxLen := by
    rcases isFlat_cases (by decide) w0 with h | ⟨_, _, _, _, h, _⟩
    · unfold maxLen; omega
    · exact h
  have hl63 : len ≤ 9223372036854775807 := by unfold maxLen at hl0; omega
  have HP := Lib.hid (laid_letter_Back hl)
  have AW := Lib.hid awake36
  clear hl hl0
  by_cases h1 : 30 < len
  · have h1I : (30 : Int) < (len : Int) := by omega
    clear w0
    go_enter Tryz.func7, Tryz.ntmps7
    go_wp2_with fail
    refine (AW.out _ HP.out).mono ?_
    rintro e w2 ⟨rfl, hb2⟩
    have HB2 := Lib.hid hb2
    clear hb2
    go_wp2_with fail
    go_ret
    exact ⟨rfl, HB2.out⟩
  have h1I : (len : Int) ≤ 30 := by omega
  obtain ⟨i0, z0, hi, hz, hsize, hby, hz0⟩ : ∃ i z, Tryz.prog.info? 25 = some i ∧ i.zero = some z ∧ i.size = 12 ∧ i.bytes = 96 ∧ z.cells.size = 12 := ⟨_, _, rfl, rfl, rfl, rfl, rfl⟩
  have HI := Lib.hid hi
  clear hi
  obtain ⟨L, hLl, hrow, hgood⟩ := rowM_flat (m := 12) (by decide) w0
  have hbv : ∀ j, j < len → ∃ b off cp x, (Value.slice l len cap) = .slice (some ⟨b, off, none⟩) len cp ∧ x.length = 12 ∧ wfI x ∧ b < w.heap.size ∧ ∀ o, o < 12 → w.cell? ⟨b, off + (j * 12 + o), none⟩ = some (.int .i64 (fld x o)) := by
    intro j hj
    obtain ⟨b, off, cp, x, e1, e2, e3, e4⟩ := hrow.at (j := j) (by rw [hLl]; exact hj)
    rw [hLl] at e1
    obtain ⟨g1, g2⟩ := hgood x (List.mem_of_getElem? e2)
    exact ⟨b, off, cp, x, e1, g1, g2, e3, e4⟩
  have HBV := Lib.hid hbv
  clear w0 hLl hrow hgood hbv h1
  go_enter Tryz.func7, Tryz.ntmps7
  go_wp2_with fail
  go_loopg [3, 4] len (fun gg s3 s4 wr => ∃ (i : Nat) (acc : List (List Int)) (vs : Value), i ≤ len ∧ gg = len - i ∧ s4 = .int .i64 i ∧ vs = s3 ∧ acc.length ≤ i ∧ Hid (∀ x ∈ acc, x.length = 12 ∧ wfI x ∧ checkM x = 0) ∧ Hid (OwnM 25 12 w.heap.size wr vs acc) ∧ Hid (Below w.heap.size w wr))
  case atStart => exact ⟨0, [], _, by omega, rfl, rfl, rfl, Nat.le_refl _, Lib.hid (by intro x hx; cases hx), Lib.hid (OwnM.nil _ _ _ _), Lib.hid (Below.refl _ _)⟩
  case round =>
    obtain ⟨i, acc, vs, hi', hg, rfl, rfl, hal, HX, HO, HB⟩ := hrel
    have hg := hg.symm
    subst hg
    by_cases hlt : i < len
    · obtain ⟨b, off, cp, x, e1, hx8, hxw, hbl, hc⟩ := HBV.out i hlt
      cases e1
      have hpw := wf_pureM x hxw
      have hpl := pureM_length x
      have PU := fun wx => ref35_pure x hx8 wx
      have CK := fun wx => ref35_check (pureM x) hpl wx
      generalize pureM x = px at hpw hpl PU CK
      obtain ⟨ck, hck⟩ : ∃ c, checkM px = c := ⟨_, rfl⟩
      rw [hck] at CK
      have HCK := Lib.hid hck
      have HPW := Lib.hid hpw
      obtain ⟨a0, a1, a2, a3, a4, a5, a6, a7, a8, a9, a10, a11, rfl⟩ := twelve_of hx8
      obtain ⟨d0, d1, d2, d3, d4, d5, d6, d7, d8, d9, d10, d11, rfl⟩ := twelve_of hpl
      have PUH : Hid (∀ wx, Calls Tryz.prog 28 #[.agg #[.int .i64 a0, .int .i64 a1, .int .i64 a2, .int .i64 a3, .int .i64 a4, .int .i64 a5, .int .i64 a6, .int .i64 a7, .int .i64 a8, .int .i64 a9, .int .i64 a10, .int .i64 a11]] wx fun e w' => e = .returned (.agg #[.int .i64 d0, .int .i64 d1, .int .i64 d2, .int .i64 d3, .int .i64 d4, .int .i64 d5, .int .i64 d6, .int .i64 d7, .int .i64 d8, .int .i64 d9, .int .i64 d10, .int .i64 d11]) ∧ Below wx.heap.size wx w') := Lib.hid PU
      have CKH : Hid (∀ wx, Calls Tryz.prog 29 #[.agg #[.int .i64 d0, .int .i64 d1, .int .i64 d2, .int .i64 d3, .int .i64 d4, .int .i64 d5, .int .i64 d6, .int .i64 d7, .int .i64 d8, .int .i64 d9, .int .i64 d10, .int .i64 d11]] wx fun e w' => e = .returned (.int .i64 ck) ∧ Below wx.heap.size wx w') := Lib.hid CK
      have k0 : wr.cell? ⟨b, off + i * 12, none⟩ = some (.int .i64 a0) := by have h := keepB HB.out (hc 0 (by decide)) hbl; exact h
      have k1 : wr.cell? ⟨b, off + i * 12 + 1, none⟩ = some (.int .i64 a1) := by have h := keepB HB.out (hc 1 (by decide)) hbl; rw [← Nat.add_assoc] at h; exact h
      have k2 : wr.cell? ⟨b, off + i * 12 + 2, none⟩ = some (.int .i64 a2) := by have h := keepB HB.out (hc 2 (by decide)) hbl; rw [← Nat.add_assoc] at h; exact h
      have k3 : wr.cell? ⟨b, off + i * 12 + 3, none⟩ = some (.int .i64 a3) := by have h := keepB HB.out (hc 3 (by decide)) hbl; rw [← Nat.add_assoc] at h; exact h
      have k4 : wr.cell? ⟨b, off + i * 12 + 4, none⟩ = some (.int .i64 a4) := by have h := keepB HB.out (hc 4 (by decide)) hbl; rw [← Nat.add_assoc] at h; exact h
      have k5 : wr.cell? ⟨b, off + i * 12 + 5, none⟩ = some (.int .i64 a5) := by have h := keepB HB.out (hc 5 (by decide)) hbl; rw [← Nat.add_assoc] at h; exact h
      have k6 : wr.cell? ⟨b, off + i * 12 + 6, none⟩ = some (.int .i64 a6) := by have h := keepB HB.out (hc 6 (by decide)) hbl; rw [← Nat.add_assoc] at h; exact h
      have k7 : wr.cell? ⟨b, off + i * 12 + 7, none⟩ = some (.int .i64 a7) := by have h := keepB HB.out (hc 7 (by decide)) hbl; rw [← Nat.add_assoc] at h; exact h
      have k8 : wr.cell? ⟨b, off + i * 12 + 8, none⟩ = some (.int .i64 a8) := by have h := keepB HB.out (hc 8 (by decide)) hbl; rw [← Nat.add_assoc] at h; exact h
      have k9 : wr.cell? ⟨b, off + i * 12 + 9, none⟩ = some (.int .i64 a9) := by have h := keepB HB.out (hc 9 (by decide)) hbl; rw [← Nat.add_assoc] at h; exact h
      have k10 : wr.cell? ⟨b, off + i * 12 + 10, none⟩ = some (.int .i64 a10) := by have h := keepB HB.out (hc 10 (by decide)) hbl; rw [← Nat.add_assoc] at h; exact h
      have k11 : wr.cell? ⟨b, off + i * 12 + 11, none⟩ = some (.int .i64 a11) := by have h := keepB HB.out (hc 11 (by decide)) hbl; rw [← Nat.add_assoc] at h; exact h
      have hiI : (i : Int) < (len : Int) := by omega
      have hi0 : (0 : Int) ≤ (i : Int) := by omega
      clear hc hpw hpl PU CK hck hxw hx8
      go_wp2_with fail
      refine (PUH.out _).mono ?_
      rintro e w2 ⟨rfl, hb2⟩
      have HB4 := Lib.hid ((HB.out.trans (hb2.mono HB.out.size)).alloc (by have := HB.out.size; have := hb2.size; omega) (.cells #[.int .i64 d0, .int .i64 d1, .int .i64 d2, .int .i64 d3, .int .i64 d4, .int .i64 d5, .int .i64 d6, .int .i64 d7, .int .i64 d8, .int .i64 d9, .int .i64 d10, .int .i64 d11] 25))
      have HO4 := Lib.hid ((HO.out.below hb2 (Nat.le_refl _)).below ((Below.refl _ _).alloc (Nat.le_refl _) (.cells #[.int .i64 d0, .int .i64 d1, .int .i64 d2, .int .i64 d3, .int .i64 d4, .int .i64 d5, .int .i64 d6, .int .i64 d7, .int .i64 d8, .int .i64 d9, .int .i64 d10, .int .i64 d11] 25)) (Nat.le_refl _))
      have VW := Lib.hid (Blk.new w2 #[.int .i64 d0, .int .i64 d1, .int .i64 d2, .int .i64 d3, .int .i64 d4, .int .i64 d5, .int .i64 d6, .int .i64 d7, .int .i64 d8, .int .i64 d9, .int .i64 d10, .int .i64 d11] 25)
      clear hb2 HB HO PUH k0 k1 k2 k3 k4 k5 k6 k7 k8 k9 k10 k11
      go_upto_region 8 with fail
      obtain ⟨W, hW⟩ : ∃ W, w2.alloc (.cells #[.int .i64 d0, .int .i64 d1, .int .i64 d2, .int .i64 d3, .int .i64 d4, .int .i64 d5, .int .i64 d6, .int .i64 d7, .int .i64 d8, .int .i64 d9, .int .i64 d10, .int .i64 d11] 25) = W := ⟨_, rfl⟩
      rw [hW] at HB4 HO4 VW ⊢
      obtain ⟨g, hgg⟩ : ∃ g, w2.heap.size = g := ⟨_, rfl⟩
      rw [hgg] at VW ⊢
      clear hW hgg
      have c0 := VW.out.cell (i := 0) rfl
      have c1 := VW.out.cell (i := 1) rfl
      have c2 := VW.out.cell (i := 2) rfl
      have c3 := VW.out.cell (i := 3) rfl
      have c4 := VW.out.cell (i := 4) rfl
      have c5 := VW.out.cell (i := 5) rfl
      have c6 := VW.out.cell (i := 6) rfl
      have c7 := VW.out.cell (i := 7) rfl
      have c8 := VW.out.cell (i := 8) rfl
      have c9 := VW.out.cell (i := 9) rfl
      have c10 := VW.out.cell (i := 10) rfl
      have c11 := VW.out.cell (i := 11) rfl
      go_wp2_with fail
      refine (CKH.out _).mono ?_
      rintro e w5 ⟨rfl, hb5⟩
      have HB5 := Lib.hid (HB4.out.trans (hb5.mono HB4.out.size))
      have HO5 := Lib.hid (HO4.out.below hb5 (Nat.le_refl _))
      have V5 := Lib.hid (VW.out.below hb5 VW.out.lt)
      clear hb5 HB4 HO4 VW CKH c0 c1 c2 c3 c4 c5 c6 c7 c8 c9 c10 c11
      by_cases h0 : ck = 0
      · subst h0
        have c0 := V5.out.cell (i := 0) rfl
        have c1 := V5.out.cell (i := 1) rfl
        have c2 := V5.out.cell (i := 2) rfl
        have c3 := V5.out.cell (i := 3) rfl
        have c4 := V5.out.cell (i := 4) rfl
        have c5 := V5.out.cell (i := 5) rfl
        have c6 := V5.out.cell (i := 6) rfl
        have c7 := V5.out.cell (i := 7) rfl
        have c8 := V5.out.cell (i := 8) rfl
        have c9 := V5.out.cell (i := 9) rfl
        have c10 := V5.out.cell (i := 10) rfl
        have c11 := V5.out.cell (i := 11) rfl
        go_wp2_with (at_builtin; refine wpList_append_own _ rfl _ _ 47 rfl w.heap.size 25 i0 z0 12 96 Tryz.underlying47 HI.out hz hsize hby hz0 (by decide) _ acc.length (cellsLL acc) rfl (HO5.out.below ((Below.refl _ _).alloc (Nat.le_refl _) _) (Nat.le_refl _)) ⟨_, 0, none⟩ 1 1 ([d0, d1, d2, d3, d4, d5, d6, d7, d8, d9, d10, d11].map (Value.int .i64)) rfl (by simp) (cells_new _ _ [d0, d1, d2, d3, d4, d5, d6, d7, d8, d9, d10, d11]) (one_cells [d0, d1, d2, d3, d4, d5, d6, d7, d8, d9, d10, d11]) (by unfold maxLen; omega) (by omega) (by have := HB5.out.size; simp; omega) ?_)
        intro v' w6 hown2 hgrow _
        have HO6 := Lib.hid (OwnM.mk (l := [d0, d1, d2, d3, d4, d5, d6, d7, d8, d9, d10, d11]) (by exact hown2))
        have HB6 := Lib.hid (OwnM.gby (HO5.out.below ((Below.refl _ _).alloc (Nat.le_refl _) _) (Nat.le_refl _)) (HB5.out.alloc HB5.out.size _) (by have := HB5.out.size; simp; omega) hgrow)
        clear hown2 hgrow
        go_wp2_with fail
        go_roundg (len - (i + 1))
        case measure => omega
        case rel => exact ⟨i + 1, acc ++ [[d0, d1, d2, d3, d4, d5, d6, d7, d8, d9, d10, d11]], _, by omega, rfl, by go_num, rfl, by rw [List.length_append]; simp; omega, Lib.hid (by intro x hx; rcases List.mem_append.1 hx with h | h; exact HX.out x h; rw [List.mem_singleton] at h; rw [h]; exact ⟨rfl, HPW.out, HCK.out⟩), HO6, HB6⟩
      · have hne : (ck == 0) = false := by rw [beq_eq_false_iff_ne]; exact h0
        clear h0
        go_wp2_with fail
        go_roundg (len - (i + 1))
        case measure => omega
        case rel => exact ⟨i + 1, acc, _, by omega, rfl, by go_num, rfl, by omega, HX, HO5, HB5⟩
    · obtain rfl : i = len := by omega
      obtain ⟨hb1, hb2⟩ := msgs_back acc (fun x hx => ⟨(HX.out x hx).2.1, (HX.out x hx).2.2⟩)
      have hln := textL_len (acc.map (fun x => (lineM x).1)) 1000 (fun y hy => by
        rw [List.mem_map] at hy
        obtain ⟨x, hx, rfl⟩ := hy
        exact lineM_len x (HX.out x hx).2.1)
      rw [List.length_map] at hln
      have hln2 : (textL (acc.map (fun x => (lineM x).1))).length ≤ 30 * (1000 + 1) := by
        have : acc.length * (1000 + 1) ≤ 30 * (1000 + 1) := Nat.mul_le_mul_right _ (by omega)
        omega
      have T1 := fun wx h1 h2 => letter_text acc (fun x hx => ⟨(HX.out x hx).1, (HX.out x hx).2.1⟩) (by omega) vs wx h1 h2
      rw [hb1] at T1
      simp only at T1
      generalize textL (acc.map (fun x => (lineM x).1)) = TL at T1 hb2 hln2
      have P1 := fun wx h => letter_all (strL ([10] ++ TL ++ [35])) (by rw [strL_size]; simp; omega) wx h
      rw [strL_list, hb2] at P1
      simp only at P1
      obtain ⟨TS, hTS⟩ : ∃ S, strL TL = S := ⟨_, rfl⟩
      have e : strL ([10] ++ TL ++ [35]) = ⟨#[10]⟩ ++ TS ++ ⟨#[35]⟩ := by rw [strL_app, strL_app, hTS]; rfl
      have hTz : TS.size ≤ 30 * (1000 + 1) := by rw [← hTS, strL_size]; exact hln2
      rw [e] at P1
      rw [hTS] at T1
      have z1 : (⟨#[10]⟩ : ByteArray).size + TS.size ≤ 9223372036854775807 := by show 1 + _ ≤ _; omega
      have z2 : ((⟨#[10]⟩ : ByteArray) ++ TS).size + (⟨#[35]⟩ : ByteArray).size ≤ 9223372036854775807 := by rw [ByteArray.size_append]; show 1 + _ + 1 ≤ _; omega
      have HT1 := Lib.hid T1
      have HP1 := Lib.hid P1
      have HG : Hid (∀ x ∈ acc, x.length = 12) := Lib.hid (fun x hx => (HX.out x hx).1)
      clear T1 P1 e hTS hb1 hb2 hln hln2 hTz HBV
      go_wp2_with fail
      refine (HT1.out _ (OwnM.row HG.out HO.out) (HP.out.below HB.out)).mono ?_
      rintro e w2 ⟨rfl, hb2⟩
      have B2 := Lib.hid (HB.out.trans (hb2.mono HB.out.size))
      have R2 := Lib.hid ((OwnM.row HG.out HO.out).below hb2 (Nat.le_refl _))
      clear hb2 HT1 HB HO
      go_wp2_with fail
      refine (HP1.out _ (HP.out.below B2.out)).mono ?_
      rintro e w4 ⟨v1, rfl, ho1, hg1, hb4⟩
      have B4 := Lib.hid (B2.out.trans (hb4.mono B2.out.size))
      have R4 := Lib.hid (R2.out.below hb4 (Nat.le_refl _))
      have S4 := Lib.hid (OwnM.row hg1 ho1)
      clear hb4 HP1 B2 R2 ho1 hg1
      go_wp2_with fail
      refine (ref35_same acc HG.out (by omega) v1 vs _ S4.out R4.out).mono ?_
      rintro e w6 ⟨rfl, hb6⟩
      have B6 := Lib.hid (B4.out.trans (hb6.mono B4.out.size))
      clear hb6 B4 R4 S4
      go_wp2_with fail
      refine (AW.out _ (HP.out.below B6.out)).mono ?_
      rintro e w7 ⟨rfl, hb7⟩
      have B7 := Lib.hid (B6.out.trans (hb7.mono B6.out.size))
      clear hb7 B6
      go_wp2_with fail
      go_ret
      exact ⟨rfl, B7.out⟩
end Go.Proofs.YtanihdpgblkeaaaGreatDoor
