/-
  The error of an event (the reference of reeve's layer 18): the walk.
-/
import Derived.Test.YtanihdpgblkeaaaDoorRefPure
namespace Go.Proofs.YtanihdpgblkeaaaDoor
open Go.RowKit
set_option linter.unusedVariables false
set_option linter.unusedSimpArgs false

/-- May what a letter names be? -/
def okC (c : UInt8) (l : List Int) : Bool :=
  if c = 78 then inR (fld l 1) 0 15 else if c = 73 then inR (fld l 3) 1 2147483647 else if c = 74 then inR (fld l 2) 1 2147483647 else if c = 80 then inR (fld l 4) 0 99 else resB [fld l 5, fld l 6, fld l 7]
theorem right_all (l : List Int) (h : offs (fld l 0) ≠ []) : rightL l = (nm (fld l 0)).all (fun c => okC c l) := by
  unfold rightL
  rcases kind_cases (fld l 0) with e | e | e | e | e | e | e | e
  all_goals first
    | exact absurd (offs_none e) h
    | (rw [e]; simp [nm, okC, Bool.and_assoc, Bool.and_comm, Bool.and_left_comm])
theorem right_bad (l : List Int) (h : offs (fld l 0) ≠ []) (i : Nat) (c : UInt8) (hc : (nm (fld l 0))[i]? = some c) (hf : okC c l = false) : checkL l = 1 := by
  have hr : rightL l = false := by
    rw [right_all l h, List.all_eq_false]
    exact ⟨c, List.mem_of_getElem? hc, by rw [hf]; simp⟩
  unfold checkL
  rw [if_neg h, if_pos (.inr hr)]
theorem right_good (l : List Int) (h : offs (fld l 0) ≠ []) (hg : ∀ j c, j < (nm (fld l 0)).length → (nm (fld l 0))[j]? = some c → okC c l = true) : checkL l = if pureL l ≠ l then 1 else 0 := by
  have hr : rightL l = true := by
    rw [right_all l h, List.all_eq_true]
    intro c hc
    obtain ⟨j, hj, rfl⟩ := List.getElem_of_mem hc
    exact hg j _ hj (List.getElem?_eq_getElem hj)
  unfold checkL
  rw [if_neg h, hr]
  simp
set_option maxRecDepth 100000 in
set_option maxHeartbeats 3200000 in
theorem ref18_check (l : List Int) (hl : l.length = 8) (w : World) :
    Calls Tryd.prog 15 #[.agg (cellsI l)] w fun e w' => e = .returned (.int .i64 (checkL l)) ∧ Below w.heap.size w w' := by
  have HP := ref18_pure l hl
  have hpl := pureL_length l
  have hneq := neq_event (pureL l) l hpl hl
  have hno : offs (fld l 0) = [] → checkL l = 5 := by intro h; unfold checkL; rw [if_pos h]
  have hbad := fun h => right_bad l h
  have hgood := fun h => right_good l h
  obtain ⟨CK, hCK⟩ : ∃ c, checkL l = c := ⟨_, rfl⟩
  rw [hCK] at hno hbad hgood ⊢
  clear hCK
  obtain ⟨PC, hPC⟩ : ∃ C, cellsI (pureL l) = C := ⟨_, rfl⟩
  rw [hPC] at HP hneq
  clear hPC
  obtain ⟨pq, hq, hqi⟩ : ∃ q : Bool, decide (pureL l = l) = q ∧ (pureL l ≠ l ↔ q = false) := ⟨_, rfl, by simp⟩
  rw [hq] at hneq
  simp only [hqi] at hgood
  clear hq hqi hpl
  have hrr := ref08_right [fld l 5, fld l 6, fld l 7] rfl
  obtain ⟨K, n, j, i, p, x, y, z, rfl⟩ := eight_of hl
  clear hl
  have hk : fld [K, n, j, i, p, x, y, z] 0 = K := rfl
  rw [hk] at hno hbad hgood
  clear hk
  have hcell : cellsI [K, n, j, i, p, x, y, z] = #[.int .i64 K, .int .i64 n, .int .i64 j, .int .i64 i, .int .i64 p, .int .i64 x, .int .i64 y, .int .i64 z] := rfl
  rw [hcell] at HP hneq ⊢
  clear hcell
  have hc3 : cellsI [fld [K, n, j, i, p, x, y, z] 5, fld [K, n, j, i, p, x, y, z] 6, fld [K, n, j, i, p, x, y, z] 7] = #[.int .i64 x, .int .i64 y, .int .i64 z] := rfl
  rw [hc3] at hrr
  clear hc3
  obtain ⟨r, hr⟩ : ∃ r, resB [fld [K, n, j, i, p, x, y, z] 5, fld [K, n, j, i, p, x, y, z] 6, fld [K, n, j, i, p, x, y, z] 7] = r := ⟨_, rfl⟩
  rw [hr] at hrr
  have hok82 : okC 82 [K, n, j, i, p, x, y, z] = r := hr
  clear hr
  obtain ⟨W, hW⟩ : ∃ W, w.alloc (.cells #[.int .i64 K, .int .i64 n, .int .i64 j, .int .i64 i, .int .i64 p, .int .i64 x, .int .i64 y, .int .i64 z] 25) = W := ⟨_, rfl⟩
  have HB : Hid (Blk W w.heap.size #[.int .i64 K, .int .i64 n, .int .i64 j, .int .i64 i, .int .i64 p, .int .i64 x, .int .i64 y, .int .i64 z] 25) := Lib.hid (by rw [← hW]; exact Blk.new w _ _)
  have HL : Hid (Below w.heap.size w W) := Lib.hid (by rw [← hW]; exact (Below.refl w.heap.size w).alloc (Nat.le_refl _) _)
  have HW := Lib.hid hW
  have HNO := Lib.hid hno
  have HBADA := Lib.hid hbad
  have HGOODA := Lib.hid hgood
  have HPH := Lib.hid HP
  have HN := Lib.hid hneq
  have HRR := Lib.hid hrr
  have HOK := Lib.hid hok82
  clear hW hno hbad hgood HP hneq hrr hok82
  have c0 := HB.out.cell (i := 0) rfl
  go_enter Tryd.func15, Tryd.ntmps15
  go_upto_region 1 with fail
  rw [HW.out]
  clear HW
  go_wp2_with fail
  refine (ref18_names K W).mono ?_
  rintro e w1 ⟨rfl, hb1⟩
  have HB1 := Lib.hid (HB.out.below hb1 HB.out.lt)
  have HL1 := Lib.hid (HL.out.trans (hb1.mono HL.out.size))
  have hlt : w.heap.size < w1.heap.size := HB1.out.lt
  clear hb1 c0 HB HL
  by_cases h0 : offs K = []
  · have hn0 : nm K = [] := (nm_nil K).2 h0
    rw [hn0]
    have HC5 := Lib.hid (HNO.out h0)
    clear h0 hn0
    have hstr : str [] = ⟨#[]⟩ := rfl
    rw [hstr]
    clear hstr
    go_wp2_with fail
    go_ret
    exact ⟨by rw [HC5.out]; rfl, HL1.out⟩
  have hne : (str (nm K)).toList.isEmpty = false := str_empty_ne (fun e => h0 ((nm_nil K).1 (str_inj_p (e.trans rfl : str (nm K) = str []))))
  have HBADK := Lib.hid (HBADA.out h0)
  have HGOODK := Lib.hid (HGOODA.out h0)
  have hm3 := nm_length K
  obtain ⟨m, hm⟩ : ∃ m, (nm K).length = m := ⟨_, rfl⟩
  have hsz : (str (nm K)).size = m := by rw [str_size, hm]
  have hbyte : ∀ i c, (nm K)[i]? = some c → ∀ h : i < (str (nm K)).size, (((str (nm K))[i]'h).toNat : Int) = (c.toNat : Int) := by
    intro i c hc h
    obtain ⟨hi, e⟩ := List.getElem?_eq_some_iff.1 hc
    show (((nm K)[i]'hi).toNat : Int) = _
    rw [e]
  obtain ⟨S, hS⟩ : ∃ S, str (nm K) = S := ⟨_, rfl⟩
  rw [hm] at hm3
  rw [hS] at hsz hbyte hne ⊢
  have HM := Lib.hid hm
  have HSZ := Lib.hid hsz
  have HBY := Lib.hid hbyte
  have hm63 : S.size ≤ 3 := by omega
  clear hm hS hbyte h0 HNO HBADA HGOODA
  go_wp2_with fail
  go_loopg [4] m (fun gg s4 wr => ∃ q : Nat, q ≤ m ∧ gg = m - q ∧ s4 = .int .i64 q ∧ Hid (∀ jj c, jj < q → (nm K)[jj]? = some c → okC c [K, n, j, i, p, x, y, z] = true) ∧ Hid (Below w1.heap.size w1 wr))
  case atStart => exact ⟨0, by omega, rfl, rfl, Lib.hid (fun jj c h => by omega), Lib.hid (Below.refl _ _)⟩
  case round =>
    obtain ⟨q, hq, hg, rfl, HALL, HLW⟩ := hrel
    have hg := hg.symm
    subst hg
    have HBr := Lib.hid (HB1.out.below HLW.out (by omega))
    have HLr := Lib.hid (HL1.out.trans (HLW.out.mono HL1.out.size))
    by_cases hqm : q < m
    · have hiS : q < S.size := by omega
      have hi0 : (0 : Int) ≤ (q : Int) := by omega
      obtain ⟨c, hc⟩ : ∃ c, (nm K)[q]? = some c := ⟨_, List.getElem?_eq_getElem (by rw [HM.out]; exact hqm)⟩
      have hcc := nm_mem K c (List.mem_of_getElem? hc)
      have hby := HBY.out q c hc hiS
      have HBAD := Lib.hid (fun (hf : okC c [K, n, j, i, p, x, y, z] = false) => HBADK.out q c hc hf)
      have HGOOD := Lib.hid (fun (hf : okC c [K, n, j, i, p, x, y, z] = true) jj c' (hj : jj < q + 1) (hc' : (nm K)[jj]? = some c') => show okC c' [K, n, j, i, p, x, y, z] = true by
        by_cases e : jj = q
        · subst e; rw [hc] at hc'; injection hc' with hc'; rw [← hc']; exact hf
        · exact HALL.out jj c' (by omega) hc')
      clear hc
      go_upto_region 7 with fail
      dsimp only [List.append]
      rcases hcc with rfl | rfl | rfl | rfl | rfl
      · have c0 := HBr.out.cell (i := 1) rfl
        by_cases h1 : n < 0
        · have hf : okC 78 [K, n, j, i, p, x, y, z] = false := inR_no (.inl h1)
          have HR := Lib.hid (HBAD.out hf)
          clear hf HBAD HGOOD
          go_wp2_with fail
          go_ret
          exact ⟨by rw [HR.out]; rfl, HLr.out⟩
        · have h1' : 0 ≤ n := by omega
          by_cases h2 : 15 < n
          · have hf : okC 78 [K, n, j, i, p, x, y, z] = false := inR_no (.inr h2)
            have HR := Lib.hid (HBAD.out hf)
            clear hf HBAD HGOOD
            go_wp2_with fail
            go_ret
            exact ⟨by rw [HR.out]; rfl, HLr.out⟩
          · have h2' : n ≤ 15 := by omega
            have HG2 := Lib.hid (HGOOD.out (inR_yes h1' h2'))
            clear HBAD HGOOD
            go_wp2_with fail
            go_roundg (m - (q + 1))
            case measure => omega
            case rel => exact ⟨q + 1, by omega, rfl, by go_num, HG2, HLW⟩
      · have c0 := HBr.out.cell (i := 3) rfl
        by_cases h1 : i < 1
        · have hf : okC 73 [K, n, j, i, p, x, y, z] = false := inR_no (.inl h1)
          have HR := Lib.hid (HBAD.out hf)
          clear hf HBAD HGOOD
          go_wp2_with fail
          go_ret
          exact ⟨by rw [HR.out]; rfl, HLr.out⟩
        · have h1' : 1 ≤ i := by omega
          by_cases h2 : 2147483647 < i
          · have hf : okC 73 [K, n, j, i, p, x, y, z] = false := inR_no (.inr h2)
            have HR := Lib.hid (HBAD.out hf)
            clear hf HBAD HGOOD
            go_wp2_with fail
            go_ret
            exact ⟨by rw [HR.out]; rfl, HLr.out⟩
          · have h2' : i ≤ 2147483647 := by omega
            have HG2 := Lib.hid (HGOOD.out (inR_yes h1' h2'))
            clear HBAD HGOOD
            go_wp2_with fail
            go_roundg (m - (q + 1))
            case measure => omega
            case rel => exact ⟨q + 1, by omega, rfl, by go_num, HG2, HLW⟩
      · have c0 := HBr.out.cell (i := 2) rfl
        by_cases h1 : j < 1
        · have hf : okC 74 [K, n, j, i, p, x, y, z] = false := inR_no (.inl h1)
          have HR := Lib.hid (HBAD.out hf)
          clear hf HBAD HGOOD
          go_wp2_with fail
          go_ret
          exact ⟨by rw [HR.out]; rfl, HLr.out⟩
        · have h1' : 1 ≤ j := by omega
          by_cases h2 : 2147483647 < j
          · have hf : okC 74 [K, n, j, i, p, x, y, z] = false := inR_no (.inr h2)
            have HR := Lib.hid (HBAD.out hf)
            clear hf HBAD HGOOD
            go_wp2_with fail
            go_ret
            exact ⟨by rw [HR.out]; rfl, HLr.out⟩
          · have h2' : j ≤ 2147483647 := by omega
            have HG2 := Lib.hid (HGOOD.out (inR_yes h1' h2'))
            clear HBAD HGOOD
            go_wp2_with fail
            go_roundg (m - (q + 1))
            case measure => omega
            case rel => exact ⟨q + 1, by omega, rfl, by go_num, HG2, HLW⟩
      · have c0 := HBr.out.cell (i := 4) rfl
        by_cases h1 : p < 0
        · have hf : okC 80 [K, n, j, i, p, x, y, z] = false := inR_no (.inl h1)
          have HR := Lib.hid (HBAD.out hf)
          clear hf HBAD HGOOD
          go_wp2_with fail
          go_ret
          exact ⟨by rw [HR.out]; rfl, HLr.out⟩
        · have h1' : 0 ≤ p := by omega
          by_cases h2 : 99 < p
          · have hf : okC 80 [K, n, j, i, p, x, y, z] = false := inR_no (.inr h2)
            have HR := Lib.hid (HBAD.out hf)
            clear hf HBAD HGOOD
            go_wp2_with fail
            go_ret
            exact ⟨by rw [HR.out]; rfl, HLr.out⟩
          · have h2' : p ≤ 99 := by omega
            have HG2 := Lib.hid (HGOOD.out (inR_yes h1' h2'))
            clear HBAD HGOOD
            go_wp2_with fail
            go_roundg (m - (q + 1))
            case measure => omega
            case rel => exact ⟨q + 1, by omega, rfl, by go_num, HG2, HLW⟩
      · have c5 := HBr.out.cell (i := 5) rfl
        have c6 := HBr.out.cell (i := 6) rfl
        have c7 := HBr.out.cell (i := 7) rfl
        go_wp2_with fail
        refine (HRR.out _).mono ?_
        rintro e w4 ⟨rfl, hb4⟩
        have HLW4 := Lib.hid (HLW.out.trans (hb4.mono HLW.out.size))
        have HLr4 := Lib.hid (HLr.out.trans (hb4.mono HLr.out.size))
        clear hb4
        cases r
        · have HR := Lib.hid (HBAD.out HOK.out)
          clear HBAD HGOOD
          go_wp2_with fail
          go_ret
          exact ⟨by rw [HR.out]; rfl, HLr4.out⟩
        · have HG2 := Lib.hid (HGOOD.out HOK.out)
          clear HBAD HGOOD
          go_wp2_with fail
          go_roundg (m - (q + 1))
          case measure => omega
          case rel => exact ⟨q + 1, by omega, rfl, by go_num, HG2, HLW4⟩
    · obtain rfl : q = m := by omega
      have HC := Lib.hid (HGOODK.out (fun jj c hj hc => HALL.out jj c (by rw [HM.out] at hj; exact hj) hc))
      have d0 := HBr.out.cell (i := 0) rfl
      have d1 := HBr.out.cell (i := 1) rfl
      have d2 := HBr.out.cell (i := 2) rfl
      have d3 := HBr.out.cell (i := 3) rfl
      have d4 := HBr.out.cell (i := 4) rfl
      have d5 := HBr.out.cell (i := 5) rfl
      have d6 := HBr.out.cell (i := 6) rfl
      have d7 := HBr.out.cell (i := 7) rfl
      have hlt := HBr.out.lt
      clear HBADK HGOODK HALL
      go_upto_region 9 with fail
      have hneq := HN.out
      cases pq
      all_goals
        simp only [Bool.not_false, Bool.not_true] at hneq
        go_region_held3 (fun w' => w'.cell? ⟨w.heap.size, 0, none⟩ = some (.int .i64 K) ∧ w'.cell? ⟨w.heap.size, 1, none⟩ = some (.int .i64 n) ∧ w'.cell? ⟨w.heap.size, 2, none⟩ = some (.int .i64 j) ∧ w'.cell? ⟨w.heap.size, 3, none⟩ = some (.int .i64 i) ∧ w'.cell? ⟨w.heap.size, 4, none⟩ = some (.int .i64 p) ∧ w'.cell? ⟨w.heap.size, 5, none⟩ = some (.int .i64 x) ∧ w'.cell? ⟨w.heap.size, 6, none⟩ = some (.int .i64 y) ∧ w'.cell? ⟨w.heap.size, 7, none⟩ = some (.int .i64 z))
          (first | (go_keep; done) | exact ⟨keepB hb4 d0 hlt, keepB hb4 d1 hlt, keepB hb4 d2 hlt, keepB hb4 d3 hlt, keepB hb4 d4 hlt, keepB hb4 d5 hlt, keepB hb4 d6 hlt, keepB hb4 d7 hlt⟩)
          ((go_at_call 33; refine (HPH.out _).mono ?_; rintro e w4 ⟨rfl, hb4⟩))
        have HL4 := Lib.hid (HLr.out.drew.trans (hb4.mono (by have := HLr.out.size; simpa using this)))
        go_wp2_with fail
        go_ret
        exact ⟨by rw [HC.out]; rfl, HL4.out⟩
end Go.Proofs.YtanihdpgblkeaaaDoor
