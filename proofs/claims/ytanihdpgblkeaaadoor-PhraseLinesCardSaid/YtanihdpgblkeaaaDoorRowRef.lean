/-
  Rows of named numbers (reeve's layer 7): the numbers of a row's line by the reference; a line's first word.
-/
import Derived.Test.YtanihdpgblkeaaaDoorRowParse
import Derived.Test.YtanihdpgblkeaaaDoorDecRefList
import Derived.BigQuiet
namespace Go.Proofs.YtanihdpgblkeaaaDoor
open Go.RowKit
set_option linter.unusedVariables false
set_option linter.unusedSimpArgs false

theorem ext_take {P : List UInt8} {n : Nat} (h : n ≤ P.length) : (strL P).extract 0 n = strL (P.take n) := by
  apply ByteArray.ext
  rw [ByteArray.data_extract]
  apply Array.ext'
  simp [strL]
theorem ext_drop {P : List UInt8} {n : Nat} : (strL P).extract n (strL P).size = strL (P.drop n) := by
  apply ByteArray.ext
  rw [ByteArray.data_extract]
  apply Array.ext'
  simp [strL, ByteArray.size, ← List.length_drop]
theorem part_pre (P A : List UInt8) : (P.length < A.length + 1 → partV P A = none) ∧ (A.length + 1 ≤ P.length → P.take (A.length + 1) ≠ A ++ [61] → partV P A = none) ∧ (A.length + 1 ≤ P.length → P.take (A.length + 1) = A ++ [61] → partV P A = decV (P.drop (A.length + 1))) := by
  have hp : (A ++ [61]).isPrefixOf P = true ↔ (A ++ [61]) = P.take (A.length + 1) := by
    rw [List.isPrefixOf_iff_prefix, List.prefix_iff_eq_take]; simp
  unfold partV
  refine ⟨fun h => if_neg (fun h2 => ?_), fun _ h => if_neg (fun h2 => h (hp.1 h2).symm), fun _ h => if_pos (hp.2 h.symm)⟩
  have h3 := congrArg List.length (hp.1 h2)
  rw [List.length_take] at h3
  simp at h3
  omega
set_option maxRecDepth 100000 in
set_option maxHeartbeats 3200000 in
theorem ref07_parse (s : ByteArray) (word : List UInt8) (vn : Value) (names : List (List UInt8)) (w : World) (hs : s.size ≤ 100000) (hn : RowS w vn (names.map strL)) (hn1 : names.length ≤ 1000) (hn2 : ∀ y ∈ names, y.length ≤ 60) :
    Calls Tryd.prog 23 #[.string s, .string (strL word), vn] w fun e w' => ∃ v, e = .returned (.tuple #[v, .int .i64 (rowR (wordsL s.data.toList) word names).2]) ∧ RowN w' v (rowR (wordsL s.data.toList) word names).1 ∧ Below w.heap.size w w' := by
  obtain ⟨i0, hi, hz, hsize, hby⟩ : ∃ i, Tryd.prog.info? 3 = some i ∧ i.zero = some (.int .i64 0) ∧ i.size = 1 ∧ i.bytes = 8 := ⟨_, rfl, rfl, rfl, rfl⟩
  have HI := Lib.hid hi
  clear hi
  have WD := Lib.hid (ref06_words s hs w)
  have hwl := words_le s.data.toList
  have hsl : s.data.toList.length = s.size := (Lib.size_eq s).symm
  have hWL : (wordsL s.data.toList).length ≤ 100001 := by have := refW_len s.data.toList []; unfold wordsL; omega
  generalize wordsL s.data.toList = WS at *
  have hr1 := rowR_bad (ws := WS) (word := word) (names := names)
  have hr2 := rowR_none (ws := WS) (word := word) (names := names)
  have hr3 := fun ns => rowR_some (ws := WS) (word := word) (names := names) (ns := ns)
  obtain ⟨RR, hRR⟩ : ∃ R, rowR WS word names = R := ⟨_, rfl⟩
  rw [hRR] at hr1 hr2 ⊢
  simp only [hRR] at hr3
  obtain ⟨R1, R2⟩ := RR
  obtain ⟨pn, cn, rfl⟩ := hn.len
  rw [List.length_map] at hn ⊢
  obtain ⟨N, hN⟩ : ∃ N, names.length = N := ⟨_, rfl⟩
  obtain ⟨M, hM⟩ : ∃ M, WS.length = M := ⟨_, rfl⟩
  rw [hN] at hn hn1 hr1 ⊢
  simp only [hN] at hr3
  rw [hM] at hr1 hWL
  simp only [hM] at hr3
  have HPN := Lib.hid (rowS_pick_ hn hN)
  have HNL := Lib.hid hn2
  have HWL := Lib.hid (fun y (h : y ∈ WS) => show y.length ≤ 100000 by have := hwl y h; omega)
  have HR1 := Lib.hid hr1
  have HR2 := Lib.hid hr2
  have HR3 := Lib.hid hr3
  have HM := Lib.hid hM
  have HN := Lib.hid hN
  obtain ⟨wb, hwb⟩ : ∃ wb, strL word = wb := ⟨_, rfl⟩
  have HWB := Lib.hid hwb
  rw [hwb]
  clear hn hn2 hwl hr1 hr2 hr3 hM hN hwb hRR hsl
  go_enter Tryd.func23, Tryd.ntmps23
  go_wp2_with fail
  refine WD.out.mono ?_
  rintro ee w1 ⟨v8, rfl, how, hb1⟩
  obtain ⟨p8, c8, rfl⟩ := how.row.len
  have hrow := how.row
  rw [List.length_map] at hrow
  rw [List.length_map]
  rw [HM.out] at hrow
  rw [HM.out]
  have HPW := Lib.hid (rowS_pick_ hrow HM.out)
  have HB1 := Lib.hid hb1
  clear hrow how hb1 WD
  by_cases hMN : M = N + 1
  · subst hMN
    have hpos : (0 : Int) < ((N + 1 : Nat) : Int) := by omega
    obtain ⟨b0, o0, cp, X0, e1, hX0, x0, hb0⟩ := HPW.out 0 (by omega)
    cases e1
    rw [Nat.add_zero] at x0
    obtain ⟨xb, hxb⟩ : ∃ xb, strL X0 = xb := ⟨_, rfl⟩
    rw [hxb] at x0
    have hpush : ((N + 1 : Nat) : Int) = (N : Int) + 1 := by push_cast; rfl
    have hwr : IntKind.i64.wrap ((N : Int) + 1) = (N : Int) + 1 := by rw [IntKind.wrap_i64]; omega
    by_cases hx : X0 = word
    · have hxw : xb = wb := by rw [← hxb, hx, HWB.out]
      have hq1 := beq_str hxw
      have hq2 := bne_str hxw
      subst hx
      have HX0 := Lib.hid hX0
      clear hX0 hxb
      subst hxw
      replace HR1 := True.intro
      go_wp2_with fail
      go_loopg [9, 10] N (fun g v i wr => ∃ (k : Nat) (vs : List Int), k ≤ N ∧ g = N - k ∧ i = .int .i64 k ∧ vs.length = k ∧ Hid (OwnN w1.heap.size wr v vs) ∧ Hid (Below w1.heap.size w1 wr) ∧ Hid (allO ((List.zipWith partV WS.tail names).take k) = some vs))
      case atStart => exact ⟨0, [], Nat.zero_le _, rfl, rfl, rfl, Lib.hid (OwnN.nil _ _), Lib.hid (Below.refl _ _), Lib.hid rfl⟩
      case round =>
        obtain ⟨k, vs, hk, hg, rfl, hvl, HO, HC, HT⟩ := hrel
        have hg := hg.symm
        subst hg
        have HB := Lib.hid (HB1.out.trans (HC.out.mono HB1.out.size))
        by_cases hlt : k < N
        · obtain ⟨bn, on, cp, A, e1, hA, n0, hbn⟩ := HPN.out k (by omega)
          cases e1
          obtain ⟨bw, ow, cp, P, e1, hP, p0, hbw⟩ := HPW.out (k + 1) (by omega)
          cases e1
          have n1 := keepB HB.out n0 hbn
          have p1 := keepB HC.out p0 hbw
          have hAl := HNL.out A (List.mem_of_getElem? hA)
          have hPl := HWL.out P (List.mem_of_getElem? hP)
          have hz : (List.zipWith partV WS.tail names)[k]? = some (partV P A) := zip_at (by rw [List.getElem?_tail]; exact hP) hA
          obtain ⟨g1, g2, g3⟩ := part_pre P A
          have HT2 : Hid (∀ m, partV P A = some m → allO ((List.zipWith partV WS.tail names).take (k + 1)) = some (vs ++ [m])) := Lib.hid (by
            intro m hm
            rw [hm] at hz
            exact allO_take_some _ k vs m hz HT.out)
          have HF2 : Hid (partV P A = none → allO (List.zipWith partV WS.tail names) = none) := Lib.hid (by
            intro hm
            rw [hm] at hz
            exact allO_bad _ k hz)
          clear hz n0 p0 hA hP
          have hkN : (k : Int) < (N : Int) := by omega
          have hkM : (k : Int) + 1 < (N : Int) + 1 := by omega
          have hk0 : (0 : Int) ≤ (k : Int) := by omega
          have hk1 : (0 : Int) ≤ (k : Int) + 1 := by omega
          have hkw : IntKind.i64.wrap ((k : Int) + 1) = (k : Int) + 1 := by rw [IntKind.wrap_i64]; omega
          have ht : ((k : Int) + 1).toNat = k + 1 := by omega
          have hna : strL (A ++ [61]) = strL A ++ ⟨#[61]⟩ := by rw [strL_app]; rfl
          obtain ⟨a, ha⟩ : ∃ a, A.length = a := ⟨_, rfl⟩
          have hAs : (strL A).size = a := by rw [strL_size]; exact ha
          have hPs : (strL P).size = P.length := strL_size P
          rw [ha] at g1 g2 g3 hAl
          have hpa : ((a + 1 : Nat) : Int) = (a : Int) + 1 := by push_cast; rfl
          have haw : IntKind.i64.wrap ((a : Int) + 1) = (a : Int) + 1 := by rw [IntKind.wrap_i64]; omega
          have hat : ((a : Int) + 1).toNat = a + 1 := by omega
          have ha0 : (0 : Int) ≤ (a : Int) + 1 := by omega
          by_cases hlen : P.length < a + 1
          · have HR := Lib.hid (HR2.out (HF2.out (g1 hlen)))
            have hlI : ((P.length : Nat) : Int) < (a : Int) + 1 := by omega
            have hld : decide (((P.length : Nat) : Int) < (a : Int) + 1) = true := decide_eq_true hlI
            obtain ⟨q, hq⟩ : ∃ q, P.length = q := ⟨_, rfl⟩
            rw [hq] at hlI hld hPs
            clear hq
            clear g1 g2 g3 HT2 HF2 HT HR2 HR3 hna
            generalize strL P = PB at *
            generalize strL A = AB at *
            have hAs2 : (AB.size : Int) = (a : Int) := by rw [hAs]
            go_upto_region 9 with fail
            go_quiet (fail)
            go_wp2_with fail
            go_ret2
            exact ⟨_, by rw [(Prod.mk.inj HR.out).2]; rfl, by rw [(Prod.mk.inj HR.out).1]; exact .inl ⟨_, _, rfl, rfl⟩, HB.out.trans ((below_drewN _ _).mono HB.out.size)⟩
          · have hlI : (a : Int) + 1 ≤ ((P.length : Nat) : Int) := by omega
            have hle : a + 1 ≤ P.length := by omega
            have hex := ext_take hle
            have hex2 := ext_drop (P := P) (n := a + 1)
            have DP := Lib.hid (fun w => ref05_parse (strL (P.drop (a + 1))) (by rw [strL_size, List.length_drop]; omega) w)
            rw [strL_list] at DP
            have hq0 : ¬ (9223372036854775807 < a + 1) := by omega
            have hq3 : decide (9223372036854775807 < a + 1) = false := decide_eq_false hq0
            by_cases htk : P.take (a + 1) = A ++ [61]
            · have hs1 := bne_str (show (strL P).extract 0 (a + 1) = strL A ++ ⟨#[61]⟩ by rw [hex, htk, hna])
              have hs2 := beq_str (show (strL P).extract 0 (a + 1) = strL A ++ ⟨#[61]⟩ by rw [hex, htk, hna])
              replace g3 := g3 hle htk
              have hld : decide (((P.length : Nat) : Int) < (a : Int) + 1) = false := decide_eq_false (by omega)
              obtain ⟨q, hq⟩ : ∃ q, P.length = q := ⟨_, rfl⟩
              rw [hq] at hlI hld hPs
              rw [hPs] at hex2
              clear hq hlen hle hna hex htk g1 g2
              generalize strL (P.drop (a + 1)) = DB at *
              generalize strL P = PB at *
              generalize strL A = AB at *
              rcases decR_of (l := P.drop (a + 1)) with ⟨m, hm1, hm2⟩ | ⟨hm1, hm2⟩
              · rw [hm2] at DP
                have HT3 := Lib.hid (HT2.out m (by rw [g3, hm1]))
                clear hm1 hm2 g3 HT2 HF2
                go_upto_region 9 with fail
                go_quiet (fail)
                have p2 : (wr.drewN nq).cell? ⟨b0, o0 + (k + 1), none⟩ = some (.string PB) := p1
                replace HO := Lib.hid (HO.out.below (below_drewN wr nq) (Nat.le_refl _))
                replace HC := Lib.hid (HC.out.trans ((below_drewN wr nq).mono HC.out.size))
                replace HB := Lib.hid (HB1.out.trans (HC.out.mono HB1.out.size))
                go_wp2_with fail
                refine (DP.out _).mono ?_
                rintro ee w2 ⟨rfl, rfl⟩
                go_wp2_with (at_builtin; refine wpList_append_own _ rfl _ _ 39 rfl w1.heap.size 3 i0 (.int .i64 0) 1 8 Tryd.underlying39 HI.out hz hsize hby rfl (by decide) _ vs.length (vs.map (Value.int .i64)) rfl (HO.out.below ((Below.refl _ _).alloc (Nat.le_refl _) _) (Nat.le_refl _)) ⟨_, 0, none⟩ 1 1 [.int .i64 m] rfl rfl (cell_one_new _ _ _) (by intro u hu; simp at hu; subst hu; rfl) (by unfold maxLen; omega) (by omega) (by have := HC.out.size; simp at this ⊢; omega) ?_)
                intro v' w4 hown2 hgrow _
                have HO3 := Lib.hid (OwnN.mk (l := vs) (b := m) (by rw [hvl]; exact hown2))
                have HC3 := Lib.hid (OwnN.gby (HO.out.below ((Below.refl _ _).alloc (Nat.le_refl _) _) (Nat.le_refl _)) (HC.out.alloc HC.out.size _) (by have := HC.out.size; simp at this ⊢; omega) hgrow)
                clear hown2 hgrow
                go_wp2_with fail
                go_roundg (N - (k + 1))
                case measure => omega
                case rel => exact ⟨k + 1, vs ++ [m], by omega, rfl, by go_num, by rw [List.length_append, hvl]; rfl, HO3, HC3, HT3⟩
              · rw [hm2] at DP
                have HR := Lib.hid (HR2.out (HF2.out (by rw [g3, hm1])))
                clear hm1 hm2 g3 HT2 HF2 HR2 HR3
                go_upto_region 9 with fail
                go_quiet (fail)
                have p2 : (wr.drewN nq).cell? ⟨b0, o0 + (k + 1), none⟩ = some (.string PB) := p1
                go_wp2_with fail
                refine (DP.out _).mono ?_
                rintro ee w2 ⟨rfl, rfl⟩
                go_wp2_with fail
                go_ret2
                exact ⟨_, by rw [(Prod.mk.inj HR.out).2]; rfl, by rw [(Prod.mk.inj HR.out).1]; exact .inl ⟨_, _, rfl, rfl⟩, HB.out.trans ((below_drewN _ _).mono HB.out.size)⟩
            · have hs1 := bne_str_ne (show (strL P).extract 0 (a + 1) ≠ strL A ++ ⟨#[61]⟩ by rw [hex, ← hna]; intro h; exact htk (strL_inj h))
              have hs2 := beq_str_ne (show (strL P).extract 0 (a + 1) ≠ strL A ++ ⟨#[61]⟩ by rw [hex, ← hna]; intro h; exact htk (strL_inj h))
              have HR := Lib.hid (HR2.out (HF2.out (g2 hle htk)))
              have hld : decide (((P.length : Nat) : Int) < (a : Int) + 1) = false := decide_eq_false (by omega)
              obtain ⟨q, hq⟩ : ∃ q, P.length = q := ⟨_, rfl⟩
              rw [hq] at hlI hld hPs
              clear hq hlen hle hna hex htk g1 g2 g3 HT2 HF2 HT HR2 HR3 DP hex2
              generalize strL P = PB at *
              generalize strL A = AB at *
              go_upto_region 9 with fail
              go_quiet (fail)
              go_wp2_with fail
              go_ret2
              exact ⟨_, by rw [(Prod.mk.inj HR.out).2]; rfl, by rw [(Prod.mk.inj HR.out).1]; exact .inl ⟨_, _, rfl, rfl⟩, HB.out.trans ((below_drewN _ _).mono HB.out.size)⟩
        · obtain rfl : k = N := by omega
          have hR := HR3.out vs (by first | rfl | trivial) HX0.out (by have h := HT.out; rw [List.take_of_length_le] at h; exact h; rw [List.length_zipWith, List.length_tail, HM.out, HN.out]; omega)
          have HR := Lib.hid hR
          clear hR HR3 HR2 HT
          go_wp2_with fail
          go_ret2
          exact ⟨_, by rw [(Prod.mk.inj HR.out).2]; rfl, by rw [(Prod.mk.inj HR.out).1]; exact HO.out.row, HB.out⟩
    · have hxw : xb ≠ wb := by intro h; rw [← hxb, ← HWB.out] at h; exact hx (strL_inj h)
      have hq1 := beq_str_ne hxw
      have hq2 := bne_str_ne hxw
      have HR := Lib.hid (HR1.out (by rintro ⟨_, h⟩; rw [hX0] at h; injection h with h; exact hx h))
      clear HR1 HR2 HR3 hx hxb hX0 hxw
      go_wp2_with fail
      go_ret2
      exact ⟨_, by rw [(Prod.mk.inj HR.out).2]; rfl, by rw [(Prod.mk.inj HR.out).1]; exact .inl ⟨_, _, rfl, rfl⟩, HB1.out⟩
  · have HR := Lib.hid (HR1.out (by rintro ⟨h, _⟩; exact hMN h))
    have hne : ¬ (M : Int) = (N : Int) + 1 := by omega
    have hwr : IntKind.i64.wrap ((N : Int) + 1) = (N : Int) + 1 := by rw [IntKind.wrap_i64]; omega
    clear HR1 HR2 HR3
    go_wp2_with fail
    go_ret2
    exact ⟨_, by rw [(Prod.mk.inj HR.out).2]; rfl, by rw [(Prod.mk.inj HR.out).1]; exact .inl ⟨_, _, rfl, rfl⟩, HB1.out⟩
/-- The first word of a line: the program's, and the reference's. -/
theorem row_word (s : ByteArray) (hs : s.size ≤ 100000) (w : World) :
    Calls Tryd.prog 21 #[.string s] w fun e w' => e = .returned (.string (strL (wordR (wordsL s.data.toList)))) ∧ Below w.heap.size w w' := by
  have WD := Lib.hid (words_words s hs w)
  generalize wordsL s.data.toList = WS at *
  obtain ⟨R, hR⟩ : ∃ R, strL (wordR WS) = R := ⟨_, rfl⟩
  have HR := Lib.hid hR
  rw [hR]
  clear hR
  go_enter Tryd.func21, Tryd.ntmps21
  go_wp2_with fail
  refine WD.out.mono ?_
  rintro ee w1 ⟨v8, rfl, how, hb1⟩
  have HB := Lib.hid hb1
  have hrow := how.row
  clear how hb1 WD
  cases WS with
  | nil =>
    obtain ⟨p8, c8, rfl⟩ := hrow.len
    go_wp2_with fail
    go_ret
    exact ⟨by rw [← HR.out]; rfl, HB.out⟩
  | cons x r =>
    obtain ⟨b, off, cap, y, rfl, hy, hc⟩ := RowS.at hrow (j := 0) (by simp)
    rw [Nat.add_zero] at hc
    obtain rfl : strL x = y := by simpa using hy
    have hpos : (0 : Int) < (((x :: r).map strL).length : Int) := by first | (simp; done) | (simp; omega)
    have hne : ¬ (((x :: r).map strL).length : Int) = 0 := by first | (simp; done) | (simp; omega)
    have HX : Hid (strL x = R) := Lib.hid HR.out
    clear HR
    generalize ((x :: r).map strL).length = n at *
    have hne2 : ¬ n = 0 := by omega
    clear hy hrow
    generalize strL x = xb at *
    obtain rfl : xb = R := HX.out
    clear HX
    go_wp2_with fail
    go_ret
    exact ⟨rfl, HB.out⟩
/-- Few names, of few bytes. -/
def fewB (l : List (List UInt8)) : Bool := l.all (fun x => decide (x.length ≤ 60)) && decide (l.length ≤ 16)
theorem fewB_iff (l : List (List UInt8)) : fewB l = true ↔ (∀ y ∈ l, y.length ≤ 60) ∧ l.length ≤ 16 := by
  unfold fewB; simp
end Go.Proofs.YtanihdpgblkeaaaDoor
