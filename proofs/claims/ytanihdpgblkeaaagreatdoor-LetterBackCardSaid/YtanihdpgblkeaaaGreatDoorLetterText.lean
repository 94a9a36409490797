/-
  Messages as texts (reeve's layer 36): texts of many lines: Text, Same.
-/
import Derived.Test.YtanihdpgblkeaaaGreatDoorLetterLine
import Derived.Test.YtanihdpgblkeaaaGreatDoorLetterRefLine
import Derived.Test.YtanihdpgblkeaaaGreatDoorStructRow
import Derived.Test.YtanihdpgblkeaaaGreatDoorLetterTextMath
namespace Go.Proofs.YtanihdpgblkeaaaGreatDoor
open Go.RowKit
set_option linter.unusedVariables false
set_option linter.unusedSimpArgs false

set_option maxRecDepth 100000 in
set_option maxHeartbeats 3200000 in
theorem letter_text (L : List (List Int)) (h8 : ∀ l ∈ L, l.length = 12 ∧ wfI l) (hn40 : L.length ≤ 40) (v : Value) (w : World) (hv : RowM 12 w v L) (hP : LaidL w) :
    Calls Tryz.prog 23 #[v] w fun e w' => e = .returned (.tuple #[.string (strL (textG lineM [] L).1), .int .i64 (textG lineM [] L).2]) ∧ Below w.heap.size w w' := by
  obtain ⟨i0, hi, hz, hsize, hby⟩ : ∃ i, Tryz.prog.info? 9 = some i ∧ i.zero = some (.string ⟨#[]⟩) ∧ i.size = 1 ∧ i.bytes = 16 := ⟨_, rfl, rfl, rfl, rfl⟩
  have HI := Lib.hid hi
  clear hi
  obtain ⟨p, cap, rfl⟩ := hv.len
  obtain ⟨n, hnn⟩ : ∃ n, L.length = n := ⟨_, rfl⟩
  rw [hnn] at hv hn40 ⊢
  have HV := Lib.hid hv
  have hbv : ∀ j, j < n → ∃ b off cp l, (Value.slice p n cap) = .slice (some ⟨b, off, none⟩) n cp ∧ L[j]? = some l ∧ b < w.heap.size ∧ ∀ o, o < 12 → w.cell? ⟨b, off + (j * 12 + o), none⟩ = some (.int .i64 (fld l o)) := by
    intro j hj
    obtain ⟨b, off, cp, l, e1, e2, e3, e4⟩ := HV.out.at (j := j) (by rw [hnn]; exact hj)
    rw [hnn] at e1
    exact ⟨b, off, cp, l, e1, e2, e3, e4⟩
  have HBV := Lib.hid hbv
  have H8 := Lib.hid h8
  obtain ⟨RT, hRT⟩ : ∃ R, textG lineM [] L = R := ⟨_, rfl⟩
  rw [hRT]
  obtain ⟨R1, R2⟩ := RT
  have HRT : Hid (textG lineM [] (L.drop 0) = (R1, R2)) := Lib.hid hRT
  have HN := Lib.hid hnn
  have HP := Lib.hid hP
  clear hv h8 hnn hbv HV hRT hP
  go_enter Tryz.func23, Tryz.ntmps23
  go_wp2_with fail
  go_loopg [4, 11] n (fun gg s4 s11 wr => ∃ (i : Nat) (acc : List (List UInt8)) (vs : Value), i ≤ n ∧ gg = n - i ∧ s11 = .int .i64 i ∧ vs = s4 ∧ acc.length = i ∧ Hid (∀ x ∈ acc, x.length ≤ 1000) ∧ Hid (OwnS w.heap.size wr vs (acc.map strL)) ∧ Hid (Below w.heap.size w wr) ∧ Hid (textG lineM acc (L.drop i) = (R1, R2)))
  case atStart => exact ⟨0, [], _, by omega, rfl, rfl, rfl, rfl, Lib.hid (by intro x hx; cases hx), Lib.hid (OwnS.nil _ _), Lib.hid (Below.refl _ _), HRT⟩
  case round =>
    clear HRT
    obtain ⟨i, acc, vs, hi', hg, rfl, rfl, hal, HX, HO, HB, HA⟩ := hrel
    have hg := hg.symm
    subst hg
    by_cases hlt : i < n
    · obtain ⟨b, off, cp, l, e1, hl, hbl, hc⟩ := HBV.out i hlt
      cases e1
      obtain ⟨hl8, hwf⟩ := H8.out l (List.mem_of_getElem? hl)
      have hdrop : L.drop i = l :: L.drop (i + 1) := by
        obtain ⟨h1, h2⟩ := List.getElem?_eq_some_iff.1 hl
        rw [List.drop_eq_getElem_cons h1, h2]
      have hA := HA.out
      rw [hdrop] at hA
      unfold textG at hA
      have LN1 := fun wx h => letter_line l hl8 hwf wx h
      have hlen := lineM_len l hwf
      generalize lineM l = LR at LN1 hA hlen
      obtain ⟨LR1, LR2⟩ := LR
      simp only at LN1 hA hlen
      have HA2 := Lib.hid hA
      obtain ⟨a0, a1, a2, a3, a4, a5, a6, a7, a8, a9, a10, a11, rfl⟩ := twelve_of hl8
      have k0 : wr.cell? ⟨b, off + i * 12, none⟩ = some (.int .i64 a0) := by have h := keepB HB.out (hc 0 (by decide)) hbl; exact h
      have k1 : wr.cell? ⟨b, off + i * 12 + 1, none⟩ = some (.int .i64 a1) := by have h := keepB HB.out (hc 1 (by decide)) hbl; rw [← Nat.add_assoc] at h; exact h
      have k2 : wr.cell? ⟨b, off + i * 12 + 2, none⟩ = some (.int .i64 a2) := by have h := keepB HB.out (hc 2 (by decide)) hbl; rw [← Nat.add_assoc] at h; exact h
      have k3 : wr.cell? ⟨b, off + i * 12 + 3, none⟩ = some (.int .i64 a3) := by have h := keepB HB.out (hc 3 (by decide)) hbl; rw [← Nat.add_assoc] at h; exact h
      have k4 : wr.cell? ⟨b, off + i * 12 + 4, none⟩ = some (.int .i64 a4) := by have h := keepB HB.out (hc 4 (by decide)) hbl; rw [← Nat.add_assoc] at h; exact h
      have k5 : wr.cell? ⟨b, off + i * 12 + 5, none⟩ = some (.int .i64 a5) := by have h := keepB HB.out (hc 5 (by decide)) hbl; rw [← Nat.add_assoc] at h; exact h
      have k6 : wr.cell? ⟨b, off + i * 12 + 6, none⟩ = some (.int .i64 a6) := by have h := keepB HB.out (hc 6 (by decide)) hbl; rw [← Nat.add_assoc] at h; exact h
      have k7 : wr.cell? ⟨b, off + i * 12 + 7, none⟩ = some (.int .i64 a7) := by have h := keepB HB.out (hc 7 (by decide)) hbl; rw [← Nat.add_assoc] at h; exact h
      have k8 : wr.cell? ⟨b, off + i * 12 + 8, none⟩ = some (.int .i64 a8) := by have h := keepB HB.out (hc 8 (by decide)) hbl; rw [← Nat.add_assoc] at h; exact h
      have k9 : wr.cell? ⟨b, off + i * 12 + 9, none⟩ = some (.int .i64 a9) := by have h := keepB HB.out (hc 9 (by decide)) hbl; rw [← Nat.add_assoc] at h; exact h
      have k10 : wr.cell? ⟨b, off + i * 12 + 10, none⟩ = some (.int .i64 a10) := by have h := keepB HB.out (hc 10 (by decide)) hbl; rw [← Nat.add_assoc] at h; exact h
      have k11 : wr.cell? ⟨b, off + i * 12 + 11, none⟩ = some (.int .i64 a11) := by have h := keepB HB.out (hc 11 (by decide)) hbl; rw [← Nat.add_assoc] at h; exact h
      have hiI : (i : Int) < (n : Int) := by omega
      have hi0 : (0 : Int) ≤ (i : Int) := by omega
      obtain ⟨LN, hLN⟩ : ∃ s, strL LR1 = s := ⟨_, rfl⟩
      rw [hLN] at LN1
      have LN2 : Hid (∀ wx, LaidL wx → Calls Tryz.prog 9 #[.agg #[.int .i64 a0, .int .i64 a1, .int .i64 a2, .int .i64 a3, .int .i64 a4, .int .i64 a5, .int .i64 a6, .int .i64 a7, .int .i64 a8, .int .i64 a9, .int .i64 a10, .int .i64 a11]] wx fun e w' => e = .returned (.tuple #[.string LN, .int .i64 LR2]) ∧ Below wx.heap.size wx w') := Lib.hid LN1
      have HLN := Lib.hid hLN
      have HLE := Lib.hid hlen
      have PW := Lib.hid ((HP.out.below HB.out).below ((Below.refl _ _).alloc (Nat.le_refl _) (.cells #[.int .i64 a0, .int .i64 a1, .int .i64 a2, .int .i64 a3, .int .i64 a4, .int .i64 a5, .int .i64 a6, .int .i64 a7, .int .i64 a8, .int .i64 a9, .int .i64 a10, .int .i64 a11] 25)))
      have BW := Lib.hid (HB.out.alloc HB.out.size (.cells #[.int .i64 a0, .int .i64 a1, .int .i64 a2, .int .i64 a3, .int .i64 a4, .int .i64 a5, .int .i64 a6, .int .i64 a7, .int .i64 a8, .int .i64 a9, .int .i64 a10, .int .i64 a11] 25))
      have OW := Lib.hid (HO.out.below ((Below.refl _ _).alloc (Nat.le_refl _) (.cells #[.int .i64 a0, .int .i64 a1, .int .i64 a2, .int .i64 a3, .int .i64 a4, .int .i64 a5, .int .i64 a6, .int .i64 a7, .int .i64 a8, .int .i64 a9, .int .i64 a10, .int .i64 a11] 25)) (Nat.le_refl _))
      have VW := Lib.hid (Blk.new wr #[.int .i64 a0, .int .i64 a1, .int .i64 a2, .int .i64 a3, .int .i64 a4, .int .i64 a5, .int .i64 a6, .int .i64 a7, .int .i64 a8, .int .i64 a9, .int .i64 a10, .int .i64 a11] 25)
      clear hl hc hl8 hwf hdrop hA hlen LN1 hLN HB HO HA
      go_upto_region 5 with fail
      obtain ⟨W, hW⟩ : ∃ W, wr.alloc (.cells #[.int .i64 a0, .int .i64 a1, .int .i64 a2, .int .i64 a3, .int .i64 a4, .int .i64 a5, .int .i64 a6, .int .i64 a7, .int .i64 a8, .int .i64 a9, .int .i64 a10, .int .i64 a11] 25) = W := ⟨_, rfl⟩
      rw [hW] at PW BW OW VW ⊢
      obtain ⟨g, hgg⟩ : ∃ g, wr.heap.size = g := ⟨_, rfl⟩
      rw [hgg] at VW ⊢
      clear hW hgg k0 k1 k2 k3 k4 k5 k6 k7 k8 k9 k10 k11
      have c0 := VW.out.cell (i := 0) rfl
      have c1 := VW.out.cell (i := 1) rfl
      have c2 := VW.out.cell (i := 2) rfl
      have c3 := VW.out.cell (i := 3) rfl
      have c4 := VW.out.cell (i := 4) rfl
      have c5 := VW.out.cell (i := 5) rfl
      have c6 := VW.out.cell (i := 6) rfl
      have c7 := VW.out.cell (i := 7) rfl
      have c8 := VW.out.cell (i := 8) rfl
      have c9 := VW.out.cell (i := 9) rfl
      have c10 := VW.out.cell (i := 10) rfl
      have c11 := VW.out.cell (i := 11) rfl
      go_wp2_with fail
      refine (LN2.out _ PW.out).mono ?_
      rintro e w2 ⟨rfl, hb2⟩
      have HB2 := Lib.hid (BW.out.trans (hb2.mono BW.out.size))
      have HO2 := Lib.hid (OW.out.below hb2 (Nat.le_refl _))
      clear hb2 PW BW OW VW LN2 c0 c1 c2 c3 c4 c5 c6 c7 c8 c9 c10 c11
      by_cases h0 : LR2 = 0
      · subst h0
        have HA3 : Hid (textG lineM (acc ++ [LR1]) (L.drop (i + 1)) = (R1, R2)) := Lib.hid (by rw [← HA2.out, if_pos rfl])
        clear HA2
        go_wp2_with (at_builtin; refine wpList_append_own _ rfl _ _ 67 rfl w.heap.size 9 i0 (.string ⟨#[]⟩) 1 16 Tryz.underlying67 HI.out hz hsize hby rfl (by decide) _ (acc.map strL).length ((acc.map strL).map Value.string) rfl (HO2.out.below ((Below.refl _ _).alloc (Nat.le_refl _) _) (Nat.le_refl _)) ⟨_, 0, none⟩ 1 1 [.string LN] rfl rfl (cell_one_new _ _ _) (by intro u hu; simp at hu; subst hu; rfl) (by unfold maxLen; simp; omega) (by simp; omega) (by have := HB2.out.size; simp; omega) ?_)
        intro v' w4 hown2 hgrow _
        have HO4 := Lib.hid (ownS_mkL (l := acc) (by rw [hal]; exact hown2))
        rw [← HLN.out] at HO4
        have HB4 := Lib.hid (OwnS.gby (HO2.out.below ((Below.refl _ _).alloc (Nat.le_refl _) _) (Nat.le_refl _)) (HB2.out.alloc HB2.out.size _) (by have := HB2.out.size; simp; omega) hgrow)
        clear hown2 hgrow
        go_wp2_with fail
        go_roundg (n - (i + 1))
        case measure => omega
        case rel => exact ⟨i + 1, acc ++ [LR1], _, by omega, rfl, by go_num, rfl, by rw [List.length_append, hal]; rfl, Lib.hid (by intro x hx; rcases List.mem_append.1 hx with h | h; exact HX.out x h; rw [List.mem_singleton] at h; rw [h]; exact HLE.out), Lib.hid (by rw [← map_snoc]; exact HO4.out), HB4, HA3⟩
      · have hne : (LR2 == 0) = false := by rw [beq_eq_false_iff_ne]; exact h0
        have HF : Hid ((R1, R2) = ([], LR2)) := Lib.hid (by rw [← HA2.out, if_neg h0])
        clear HA2 h0
        go_wp2_with fail
        go_ret2
        exact ⟨by rw [(Prod.mk.inj HF.out).1, (Prod.mk.inj HF.out).2]; rfl, HB2.out⟩
    · obtain rfl : i = n := by omega
      have HF : Hid ((R1, R2) = (textL acc, 0)) := Lib.hid (by rw [← HA.out, List.drop_eq_nil_of_le (by rw [HN.out]; exact Nat.le_refl _)]; rfl)
      have hle := textL_len acc 1000 HX.out
      have TX := fun (h : RowS wr vs (acc.map strL)) => words_text vs acc wr h (by omega) (by rw [hal] at hle; have : i * (1000 + 1) ≤ 40 * (1000 + 1) := Nat.mul_le_mul_right _ hn40; omega)
      have TXT := Lib.hid (TX HO.out.row)
      clear hle TX HA
      go_wp2_with fail
      refine TXT.out.mono ?_
      rintro e w5 ⟨rfl, hb5⟩
      have HB5 := Lib.hid (HB.out.trans (hb5.mono HB.out.size))
      clear hb5 TXT
      go_wp2_with fail
      go_ret2
      exact ⟨by rw [(Prod.mk.inj HF.out).1, (Prod.mk.inj HF.out).2]; rfl, HB5.out⟩
set_option maxRecDepth 100000 in
set_option maxHeartbeats 3200000 in
theorem ref36_text (L : List (List Int)) (h8 : ∀ l ∈ L, l.length = 12 ∧ wfI l) (hn40 : L.length ≤ 40) (v : Value) (w : World) (hv : RowM 12 w v L) :
    Calls Tryz.prog 24 #[v] w fun e w' => e = .returned (.tuple #[.string (strL (textG lineM [] L).1), .int .i64 (textG lineM [] L).2]) ∧ Below w.heap.size w w' := by
  obtain ⟨p, cap, rfl⟩ := hv.len
  obtain ⟨n, hnn⟩ : ∃ n, L.length = n := ⟨_, rfl⟩
  rw [hnn] at hv hn40 ⊢
  have HV := Lib.hid hv
  have hbv : ∀ j, j < n → ∃ b off cp l, (Value.slice p n cap) = .slice (some ⟨b, off, none⟩) n cp ∧ L[j]? = some l ∧ b < w.heap.size ∧ ∀ o, o < 12 → w.cell? ⟨b, off + (j * 12 + o), none⟩ = some (.int .i64 (fld l o)) := by
    intro j hj
    obtain ⟨b, off, cp, l, e1, e2, e3, e4⟩ := HV.out.at (j := j) (by rw [hnn]; exact hj)
    rw [hnn] at e1
    exact ⟨b, off, cp, l, e1, e2, e3, e4⟩
  have HBV := Lib.hid hbv
  have H8 := Lib.hid h8
  obtain ⟨RT, hRT⟩ : ∃ R, textG lineM [] L = R := ⟨_, rfl⟩
  rw [hRT]
  obtain ⟨R1, R2⟩ := RT
  have HRT : Hid (textG lineM [] (L.drop 0) = (R1, R2)) := Lib.hid hRT
  have HN := Lib.hid hnn
  clear hv h8 hnn hbv HV hRT
  go_enter Tryz.func24, Tryz.ntmps24
  go_wp2_with fail
  go_loopg [4, 5] n (fun gg s4 s5 wr => ∃ (i : Nat) (acc : List (List UInt8)), i ≤ n ∧ gg = n - i ∧ s5 = .int .i64 i ∧ s4 = .string (strL (textL acc)) ∧ acc.length = i ∧ Hid (∀ x ∈ acc, x.length ≤ 1000) ∧ Hid (Below w.heap.size w wr) ∧ Hid (textG lineM acc (L.drop i) = (R1, R2)))
  case atStart => exact ⟨0, [], by omega, rfl, rfl, rfl, rfl, Lib.hid (by intro x hx; cases hx), Lib.hid (Below.refl _ _), HRT⟩
  case round =>
    clear HRT
    obtain ⟨i, acc, hi', hg, rfl, rfl, hal, HX, HB, HA⟩ := hrel
    have hg := hg.symm
    subst hg
    have hle := textL_len acc 1000 HX.out
    have hle2 : (textL acc).length ≤ 40 * (1000 + 1) := by rw [hal] at hle; have : i * (1000 + 1) ≤ 40 * (1000 + 1) := Nat.mul_le_mul_right _ (by omega); omega
    obtain ⟨S, hS⟩ : ∃ S, strL (textL acc) = S := ⟨_, rfl⟩
    have hSz : S.size ≤ 40 * (1000 + 1) := by rw [← hS, strL_size]; exact hle2
    rw [hS]
    have HS := Lib.hid hS
    clear hle hle2 hS
    by_cases hlt : i < n
    · obtain ⟨b, off, cp, l, e1, hl, hbl, hc⟩ := HBV.out i hlt
      cases e1
      obtain ⟨hl8, hwf⟩ := H8.out l (List.mem_of_getElem? hl)
      have hdrop : L.drop i = l :: L.drop (i + 1) := by
        obtain ⟨h1, h2⟩ := List.getElem?_eq_some_iff.1 hl
        rw [List.drop_eq_getElem_cons h1, h2]
      have hA := HA.out
      rw [hdrop] at hA
      unfold textG at hA
      have LN1 := fun wx => ref36_line l hl8 hwf wx
      have hlen := lineM_len l hwf
      generalize lineM l = LR at LN1 hA hlen
      obtain ⟨LR1, LR2⟩ := LR
      simp only at LN1 hA hlen
      have HA2 := Lib.hid hA
      obtain ⟨a0, a1, a2, a3, a4, a5, a6, a7, a8, a9, a10, a11, rfl⟩ := twelve_of hl8
      have k0 : wr.cell? ⟨b, off + i * 12, none⟩ = some (.int .i64 a0) := by have h := keepB HB.out (hc 0 (by decide)) hbl; exact h
      have k1 : wr.cell? ⟨b, off + i * 12 + 1, none⟩ = some (.int .i64 a1) := by have h := keepB HB.out (hc 1 (by decide)) hbl; rw [← Nat.add_assoc] at h; exact h
      have k2 : wr.cell? ⟨b, off + i * 12 + 2, none⟩ = some (.int .i64 a2) := by have h := keepB HB.out (hc 2 (by decide)) hbl; rw [← Nat.add_assoc] at h; exact h
      have k3 : wr.cell? ⟨b, off + i * 12 + 3, none⟩ = some (.int .i64 a3) := by have h := keepB HB.out (hc 3 (by decide)) hbl; rw [← Nat.add_assoc] at h; exact h
      have k4 : wr.cell? ⟨b, off + i * 12 + 4, none⟩ = some (.int .i64 a4) := by have h := keepB HB.out (hc 4 (by decide)) hbl; rw [← Nat.add_assoc] at h; exact h
      have k5 : wr.cell? ⟨b, off + i * 12 + 5, none⟩ = some (.int .i64 a5) := by have h := keepB HB.out (hc 5 (by decide)) hbl; rw [← Nat.add_assoc] at h; exact h
      have k6 : wr.cell? ⟨b, off + i * 12 + 6, none⟩ = some (.int .i64 a6) := by have h := keepB HB.out (hc 6 (by decide)) hbl; rw [← Nat.add_assoc] at h; exact h
      have k7 : wr.cell? ⟨b, off + i * 12 + 7, none⟩ = some (.int .i64 a7) := by have h := keepB HB.out (hc 7 (by decide)) hbl; rw [← Nat.add_assoc] at h; exact h
      have k8 : wr.cell? ⟨b, off + i * 12 + 8, none⟩ = some (.int .i64 a8) := by have h := keepB HB.out (hc 8 (by decide)) hbl; rw [← Nat.add_assoc] at h; exact h
      have k9 : wr.cell? ⟨b, off + i * 12 + 9, none⟩ = some (.int .i64 a9) := by have h := keepB HB.out (hc 9 (by decide)) hbl; rw [← Nat.add_assoc] at h; exact h
      have k10 : wr.cell? ⟨b, off + i * 12 + 10, none⟩ = some (.int .i64 a10) := by have h := keepB HB.out (hc 10 (by decide)) hbl; rw [← Nat.add_assoc] at h; exact h
      have k11 : wr.cell? ⟨b, off + i * 12 + 11, none⟩ = some (.int .i64 a11) := by have h := keepB HB.out (hc 11 (by decide)) hbl; rw [← Nat.add_assoc] at h; exact h
      have hiI : (i : Int) < (n : Int) := by omega
      have hi0 : (0 : Int) ≤ (i : Int) := by omega
      obtain ⟨LN, hLN⟩ : ∃ s, strL LR1 = s := ⟨_, rfl⟩
      have hLz : LN.size ≤ 1000 := by rw [← hLN, strL_size]; exact hlen
      rw [hLN] at LN1
      have LN2 : Hid (∀ wx, Calls Tryz.prog 10 #[.agg #[.int .i64 a0, .int .i64 a1, .int .i64 a2, .int .i64 a3, .int .i64 a4, .int .i64 a5, .int .i64 a6, .int .i64 a7, .int .i64 a8, .int .i64 a9, .int .i64 a10, .int .i64 a11]] wx fun e w' => e = .returned (.tuple #[.string LN, .int .i64 LR2]) ∧ Below wx.heap.size wx w') := Lib.hid LN1
      have HLN := Lib.hid hLN
      have HLE := Lib.hid hlen
      clear hl hc hl8 hwf hdrop hA hlen LN1 hLN HA
      go_wp2_with fail
      refine (LN2.out _).mono ?_
      rintro e w2 ⟨rfl, hb2⟩
      have HB2 := Lib.hid (HB.out.trans (hb2.mono HB.out.size))
      clear hb2 HB LN2 k0 k1 k2 k3 k4 k5 k6 k7 k8 k9 k10 k11
      by_cases h0 : LR2 = 0
      · subst h0
        have HA3 : Hid (textG lineM (acc ++ [LR1]) (L.drop (i + 1)) = (R1, R2)) := Lib.hid (by rw [← HA2.out, if_pos rfl])
        have HSN : Hid (S ++ LN ++ ⟨#[10]⟩ = strL (textL (acc ++ [LR1]))) := Lib.hid (by
          have e : textL (acc ++ [LR1]) = textL acc ++ LR1 ++ [10] := by unfold textL; simp
          rw [e, strL_app, strL_app, HS.out, HLN.out]; rfl)
        have z1 : S.size + LN.size ≤ 9223372036854775807 := by omega
        have z2 : (S ++ LN).size + (⟨#[10]⟩ : ByteArray).size ≤ 9223372036854775807 := by rw [ByteArray.size_append]; show _ + 1 ≤ _; omega
        clear HA2
        go_wp2_with fail
        go_roundg (n - (i + 1))
        case measure => omega
        case rel => exact ⟨i + 1, acc ++ [LR1], by omega, rfl, by go_num, by rw [← HSN.out], by rw [List.length_append, hal]; rfl, Lib.hid (by intro x hx; rcases List.mem_append.1 hx with h | h; exact HX.out x h; rw [List.mem_singleton] at h; rw [h]; exact HLE.out), HB2, HA3⟩
      · have hne : (LR2 == 0) = false := by rw [beq_eq_false_iff_ne]; exact h0
        have HF : Hid ((R1, R2) = ([], LR2)) := Lib.hid (by rw [← HA2.out, if_neg h0])
        clear HA2 h0
        go_wp2_with fail
        go_ret2
        exact ⟨by rw [(Prod.mk.inj HF.out).1, (Prod.mk.inj HF.out).2]; rfl, HB2.out⟩
    · obtain rfl : i = n := by omega
      have HF : Hid ((R1, R2) = (textL acc, 0)) := Lib.hid (by rw [← HA.out, List.drop_eq_nil_of_le (by rw [HN.out]; exact Nat.le_refl _)]; rfl)
      clear HA
      go_wp2_with fail
      go_ret2
      exact ⟨by rw [(Prod.mk.inj HF.out).1, (Prod.mk.inj HF.out).2, HS.out]; rfl, HB.out⟩
set_option maxRecDepth 100000 in
set_option maxHeartbeats 3200000 in
theorem ref35_same (L : List (List Int)) (h8 : ∀ l ∈ L, l.length = 12) (hn1 : L.length ≤ 1000000) (u v : Value) (w : World) (hu : RowM 12 w u L) (hv : RowM 12 w v L) :
    Calls Tryz.prog 27 #[u, v] w fun e w' => e = .returned (.bool true) ∧ Below w.heap.size w w' := by
  obtain ⟨p, cap, rfl⟩ := hu.len
  obtain ⟨p2, cap2, rfl⟩ := hv.len
  obtain ⟨n, hnn⟩ : ∃ n, L.length = n := ⟨_, rfl⟩
  rw [hnn] at hu hv hn1 ⊢
  have H8 := Lib.hid h8
  have hbv : ∀ j, j < n → ∃ b off cp b2 off2 cp2 l, (Value.slice p n cap) = .slice (some ⟨b, off, none⟩) n cp ∧ (Value.slice p2 n cap2) = .slice (some ⟨b2, off2, none⟩) n cp2 ∧ l ∈ L ∧ b < w.heap.size ∧ b2 < w.heap.size ∧ (∀ o, o < 12 → w.cell? ⟨b, off + (j * 12 + o), none⟩ = some (.int .i64 (fld l o))) ∧ ∀ o, o < 12 → w.cell? ⟨b2, off2 + (j * 12 + o), none⟩ = some (.int .i64 (fld l o)) := by
    intro j hj
    obtain ⟨b, off, cp, l, e1, e2, e3, e4⟩ := hu.at (j := j) (by rw [hnn]; exact hj)
    obtain ⟨b2, off2, cp2, l2, f1, f2, f3, f4⟩ := hv.at (j := j) (by rw [hnn]; exact hj)
    rw [hnn] at e1 f1
    have e : l2 = l := by rw [e2] at f2; injection f2 with f2; exact f2.symm
    subst e
    exact ⟨b, off, cp, b2, off2, cp2, l2, e1, f1, List.mem_of_getElem? e2, e3, f3, e4, f4⟩
  have HBV := Lib.hid hbv
  clear hu hv h8 hnn hbv
  go_enter Tryz.func27, Tryz.ntmps27
  go_wp2_with fail
  go_loopg [5] n (fun gg s5 wr => ∃ i : Nat, i ≤ n ∧ gg = n - i ∧ s5 = .int .i64 i ∧ Hid (Below w.heap.size w wr))
  case atStart => exact ⟨0, by omega, rfl, rfl, Lib.hid (Below.refl _ _)⟩
  case round =>
    obtain ⟨i, hi', hg, rfl, HB⟩ := hrel
    have hg := hg.symm
    subst hg
    by_cases hlt : i < n
    · obtain ⟨b, off, cp, b2, off2, cp2, l, e1, f1, hl, hb1, hb2, hc, hc2⟩ := HBV.out i hlt
      cases e1
      cases f1
      have hl8 := H8.out l hl
      have hq := neq_msg l l hl8 hl8
      obtain ⟨a0, a1, a2, a3, a4, a5, a6, a7, a8, a9, a10, a11, rfl⟩ := twelve_of hl8
      have hq2 : ∀ w, (binOp .neq 25 (.agg #[.int .i64 a0, .int .i64 a1, .int .i64 a2, .int .i64 a3, .int .i64 a4, .int .i64 a5, .int .i64 a6, .int .i64 a7, .int .i64 a8, .int .i64 a9, .int .i64 a10, .int .i64 a11]) (.agg #[.int .i64 a0, .int .i64 a1, .int .i64 a2, .int .i64 a3, .int .i64 a4, .int .i64 a5, .int .i64 a6, .int .i64 a7, .int .i64 a8, .int .i64 a9, .int .i64 a10, .int .i64 a11])).run Tryz.prog w = .ok (.bool false) w := fun w => by rw [show (#[.int .i64 a0, .int .i64 a1, .int .i64 a2, .int .i64 a3, .int .i64 a4, .int .i64 a5, .int .i64 a6, .int .i64 a7, .int .i64 a8, .int .i64 a9, .int .i64 a10, .int .i64 a11] : Array Value) = cellsI [a0, a1, a2, a3, a4, a5, a6, a7, a8, a9, a10, a11] from rfl, hq w]; simp
      have k0 : wr.cell? ⟨b, off + i * 12, none⟩ = some (.int .i64 a0) := by have h := keepB HB.out (hc 0 (by decide)) hb1; exact h
      have k1 : wr.cell? ⟨b, off + i * 12 + 1, none⟩ = some (.int .i64 a1) := by have h := keepB HB.out (hc 1 (by decide)) hb1; rw [← Nat.add_assoc] at h; exact h
      have k2 : wr.cell? ⟨b, off + i * 12 + 2, none⟩ = some (.int .i64 a2) := by have h := keepB HB.out (hc 2 (by decide)) hb1; rw [← Nat.add_assoc] at h; exact h
      have k3 : wr.cell? ⟨b, off + i * 12 + 3, none⟩ = some (.int .i64 a3) := by have h := keepB HB.out (hc 3 (by decide)) hb1; rw [← Nat.add_assoc] at h; exact h
      have k4 : wr.cell? ⟨b, off + i * 12 + 4, none⟩ = some (.int .i64 a4) := by have h := keepB HB.out (hc 4 (by decide)) hb1; rw [← Nat.add_assoc] at h; exact h
      have k5 : wr.cell? ⟨b, off + i * 12 + 5, none⟩ = some (.int .i64 a5) := by have h := keepB HB.out (hc 5 (by decide)) hb1; rw [← Nat.add_assoc] at h; exact h
      have k6 : wr.cell? ⟨b, off + i * 12 + 6, none⟩ = some (.int .i64 a6) := by have h := keepB HB.out (hc 6 (by decide)) hb1; rw [← Nat.add_assoc] at h; exact h
      have k7 : wr.cell? ⟨b, off + i * 12 + 7, none⟩ = some (.int .i64 a7) := by have h := keepB HB.out (hc 7 (by decide)) hb1; rw [← Nat.add_assoc] at h; exact h
      have k8 : wr.cell? ⟨b, off + i * 12 + 8, none⟩ = some (.int .i64 a8) := by have h := keepB HB.out (hc 8 (by decide)) hb1; rw [← Nat.add_assoc] at h; exact h
      have k9 : wr.cell? ⟨b, off + i * 12 + 9, none⟩ = some (.int .i64 a9) := by have h := keepB HB.out (hc 9 (by decide)) hb1; rw [← Nat.add_assoc] at h; exact h
      have k10 : wr.cell? ⟨b, off + i * 12 + 10, none⟩ = some (.int .i64 a10) := by have h := keepB HB.out (hc 10 (by decide)) hb1; rw [← Nat.add_assoc] at h; exact h
      have k11 : wr.cell? ⟨b, off + i * 12 + 11, none⟩ = some (.int .i64 a11) := by have h := keepB HB.out (hc 11 (by decide)) hb1; rw [← Nat.add_assoc] at h; exact h
      have c0 : wr.cell? ⟨b2, off2 + i * 12, none⟩ = some (.int .i64 a0) := by have h := keepB HB.out (hc2 0 (by decide)) hb2; exact h
      have c1 : wr.cell? ⟨b2, off2 + i * 12 + 1, none⟩ = some (.int .i64 a1) := by have h := keepB HB.out (hc2 1 (by decide)) hb2; rw [← Nat.add_assoc] at h; exact h
      have c2 : wr.cell? ⟨b2, off2 + i * 12 + 2, none⟩ = some (.int .i64 a2) := by have h := keepB HB.out (hc2 2 (by decide)) hb2; rw [← Nat.add_assoc] at h; exact h
      have c3 : wr.cell? ⟨b2, off2 + i * 12 + 3, none⟩ = some (.int .i64 a3) := by have h := keepB HB.out (hc2 3 (by decide)) hb2; rw [← Nat.add_assoc] at h; exact h
      have c4 : wr.cell? ⟨b2, off2 + i * 12 + 4, none⟩ = some (.int .i64 a4) := by have h := keepB HB.out (hc2 4 (by decide)) hb2; rw [← Nat.add_assoc] at h; exact h
      have c5 : wr.cell? ⟨b2, off2 + i * 12 + 5, none⟩ = some (.int .i64 a5) := by have h := keepB HB.out (hc2 5 (by decide)) hb2; rw [← Nat.add_assoc] at h; exact h
      have c6 : wr.cell? ⟨b2, off2 + i * 12 + 6, none⟩ = some (.int .i64 a6) := by have h := keepB HB.out (hc2 6 (by decide)) hb2; rw [← Nat.add_assoc] at h; exact h
      have c7 : wr.cell? ⟨b2, off2 + i * 12 + 7, none⟩ = some (.int .i64 a7) := by have h := keepB HB.out (hc2 7 (by decide)) hb2; rw [← Nat.add_assoc] at h; exact h
      have c8 : wr.cell? ⟨b2, off2 + i * 12 + 8, none⟩ = some (.int .i64 a8) := by have h := keepB HB.out (hc2 8 (by decide)) hb2; rw [← Nat.add_assoc] at h; exact h
      have c9 : wr.cell? ⟨b2, off2 + i * 12 + 9, none⟩ = some (.int .i64 a9) := by have h := keepB HB.out (hc2 9 (by decide)) hb2; rw [← Nat.add_assoc] at h; exact h
      have c10 : wr.cell? ⟨b2, off2 + i * 12 + 10, none⟩ = some (.int .i64 a10) := by have h := keepB HB.out (hc2 10 (by decide)) hb2; rw [← Nat.add_assoc] at h; exact h
      have c11 : wr.cell? ⟨b2, off2 + i * 12 + 11, none⟩ = some (.int .i64 a11) := by have h := keepB HB.out (hc2 11 (by decide)) hb2; rw [← Nat.add_assoc] at h; exact h
      have hiI : (i : Int) < (n : Int) := by omega
      have hi0 : (0 : Int) ≤ (i : Int) := by omega
      clear hl hc hc2 hl8 hq hb1 hb2
      go_upto_region 6 with fail
      go_region_held3 (fun w' => w'.cell? ⟨b, off + i * 12, none⟩ = some (.int .i64 a0) ∧ w'.cell? ⟨b, off + i * 12 + 1, none⟩ = some (.int .i64 a1) ∧ w'.cell? ⟨b, off + i * 12 + 2, none⟩ = some (.int .i64 a2) ∧ w'.cell? ⟨b, off + i * 12 + 3, none⟩ = some (.int .i64 a3) ∧ w'.cell? ⟨b, off + i * 12 + 4, none⟩ = some (.int .i64 a4) ∧ w'.cell? ⟨b, off + i * 12 + 5, none⟩ = some (.int .i64 a5) ∧ w'.cell? ⟨b, off + i * 12 + 6, none⟩ = some (.int .i64 a6) ∧ w'.cell? ⟨b, off + i * 12 + 7, none⟩ = some (.int .i64 a7) ∧ w'.cell? ⟨b, off + i * 12 + 8, none⟩ = some (.int .i64 a8) ∧ w'.cell? ⟨b, off + i * 12 + 9, none⟩ = some (.int .i64 a9) ∧ w'.cell? ⟨b, off + i * 12 + 10, none⟩ = some (.int .i64 a10) ∧ w'.cell? ⟨b, off + i * 12 + 11, none⟩ = some (.int .i64 a11) ∧ w'.cell? ⟨b2, off2 + i * 12, none⟩ = some (.int .i64 a0) ∧ w'.cell? ⟨b2, off2 + i * 12 + 1, none⟩ = some (.int .i64 a1) ∧ w'.cell? ⟨b2, off2 + i * 12 + 2, none⟩ = some (.int .i64 a2) ∧ w'.cell? ⟨b2, off2 + i * 12 + 3, none⟩ = some (.int .i64 a3) ∧ w'.cell? ⟨b2, off2 + i * 12 + 4, none⟩ = some (.int .i64 a4) ∧ w'.cell? ⟨b2, off2 + i * 12 + 5, none⟩ = some (.int .i64 a5) ∧ w'.cell? ⟨b2, off2 + i * 12 + 6, none⟩ = some (.int .i64 a6) ∧ w'.cell? ⟨b2, off2 + i * 12 + 7, none⟩ = some (.int .i64 a7) ∧ w'.cell? ⟨b2, off2 + i * 12 + 8, none⟩ = some (.int .i64 a8) ∧ w'.cell? ⟨b2, off2 + i * 12 + 9, none⟩ = some (.int .i64 a9) ∧ w'.cell? ⟨b2, off2 + i * 12 + 10, none⟩ = some (.int .i64 a10) ∧ w'.cell? ⟨b2, off2 + i * 12 + 11, none⟩ = some (.int .i64 a11)) (first | (go_keep; done) | exact ⟨k0, k1, k2, k3, k4, k5, k6, k7, k8, k9, k10, k11, c0, c1, c2, c3, c4, c5, c6, c7, c8, c9, c10, c11⟩) (fail)
      go_wp2_with fail
      go_roundg (n - (i + 1))
      case measure => omega
      case rel => exact ⟨i + 1, by omega, rfl, by go_num, Lib.hid HB.out.drew⟩
    · obtain rfl : i = n := by omega
      go_wp2_with fail
      go_ret
      exact ⟨rfl, HB.out⟩
end Go.Proofs.YtanihdpgblkeaaaGreatDoor
