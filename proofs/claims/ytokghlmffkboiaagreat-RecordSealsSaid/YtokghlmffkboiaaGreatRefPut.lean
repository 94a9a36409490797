/-
  An event's bytes (the reference of reeve's layer 18): the walk.
-/
import Derived.Test.YtokghlmffkboiaaGreatRefCheck
namespace Go.Proofs.YtokghlmffkboiaaGreat
open Go.RowKit
set_option linter.unusedVariables false
set_option linter.unusedSimpArgs false

theorem str_add2 (a b : ByteArray) : (⟨a.data ++ b.data⟩ : ByteArray) = a ++ b := by apply ByteArray.ext; simp
theorem nums_at (l : List Int) (i o : Nat) (h : (offs (fld l 0))[i]? = some o) : ((numsL l).map (Value.int .i64))[i]? = some (.int .i64 (fld l o)) := by
  unfold numsL
  rw [List.getElem?_map, List.getElem?_map, h]
  rfl
set_option maxRecDepth 100000 in
set_option maxHeartbeats 1600000 in
theorem ref18_put (l : List Int) (hl : l.length = 8) (hw : wfI l) (w : World) :
    Calls Tryz.prog 38 #[.agg (cellsI l)] w fun e w' => e = .returned (.tuple #[.string (putS l), .int .i64 (checkL l)]) ∧ Below w.heap.size w w' := by
  have hu := Tryz.underlying25
  have hi := info_event l hl
  have HCK := Lib.hid (ref18_check l hl)
  have HNUM := Lib.hid (ref18_numbers l hl)
  have HCC := Lib.hid (fun i (h : i < 8) => show (cellsI l)[i]? = some (.int .i64 (fld l i)) from cellsI_at (by omega))
  obtain ⟨PS, hPS⟩ : ∃ p, putS l = p := ⟨_, rfl⟩
  obtain ⟨CK, hCK⟩ : ∃ c, checkL l = c := ⟨_, rfl⟩
  rw [hPS]
  rw [hCK] at HCK ⊢
  have HPS := Lib.hid hPS
  have HK := Lib.hid hCK
  clear hPS hCK
  obtain ⟨C, hC⟩ : ∃ C, cellsI l = C := ⟨_, rfl⟩
  rw [hC] at HCK HCC HNUM hi ⊢
  clear hC
  go_enter Tryz.func38, Tryz.ntmps38
  go_wp2_with (with_reducible refine ev_load rfl 25 (.tmp 1) rfl w.heap.size rfl 25 C _ (Blk.new w C _) hu rfl hi ?_)
  refine (HCK.out _).mono ?_
  rintro e w1 ⟨rfl, hb1⟩
  have X0 := Lib.hid ((Blk.new w C 25).below hb1 (by simp))
  have hb1 : Below w.heap.size w w1 := ((Below.refl w.heap.size w).alloc (Nat.le_refl _) _).trans (hb1.mono (by simp))
  have HB1 := Lib.hid hb1
  have hs1 : w.heap.size < w1.heap.size := X0.out.lt
  clear hb1
  by_cases h0 : CK = 0
  · subst h0
    have hk := check_kind HK.out
    obtain ⟨kn, hkn⟩ : ∃ kn : Nat, fld l 0 = kn := ⟨(fld l 0).toNat, by omega⟩
    have hkb : (1 : Int) ≤ (kn : Int) ∧ (kn : Int) ≤ 7 := by omega
    obtain ⟨hk1, hk7⟩ := hkb
    have hcell := X0.out.cell (HCC.out 0 (by omega))
    rw [hkn] at hcell
    have HKN := Lib.hid hkn
    clear hk hkn
    have hcv : IntKind.u64.wrap (kn : Int) = (kn : Int) := by
      show (kn : Int) % 18446744073709551616 = kn
      omega
    go_wp2_with fail
    refine (ref02_fixed kn 1 (by omega) (by decide) (by decide) _).mono ?_
    rintro e w2 ⟨rfl, hb2⟩
    have X2 := Lib.hid (X0.out.below hb2 (by omega))
    have L2 := Lib.hid (HB1.out.trans (hb2.mono (by omega)))
    clear hb2 hcell X0 HB1
    go_wp2_with (with_reducible refine ev_load rfl 25 (.tmp 1) rfl w.heap.size rfl 25 C _ X2.out hu rfl hi ?_)
    refine (HNUM.out _).mono ?_
    rintro e w3 ⟨v, rfl, ho, hb3⟩
    have R3 := Lib.hid ho.row
    have L3 := Lib.hid (L2.out.trans (hb3.mono L2.out.size))
    obtain ⟨p, cap, rfl⟩ := ho.len
    clear hb3 ho L2 X2
    obtain ⟨n, hn⟩ : ∃ n, (numsL l).length = n := ⟨_, rfl⟩
    have hno : (offs (fld l 0)).length = n := by rw [← hn]; unfold numsL; rw [List.length_map]
    have hn5 := offs_length (fld l 0)
    rw [hno] at hn5
    rw [hn]
    have HNL := Lib.hid hn
    have HNO := Lib.hid hno
    have hstart : str (Oct.fixB kn 1) = str (putPart l 0) := by unfold putPart; rw [HKN.out]; simp
    rw [hstart]
    clear hn hno hstart
    go_wp2_with fail
    go_loopg [5, 7] n (fun gg s5 s7 wr => ∃ i : Nat, i ≤ n ∧ gg = n - i ∧ s7 = .int .i64 i ∧ s5 = .string (str (putPart l i)) ∧ Hid (Below w3.heap.size w3 wr))
    case atStart => exact ⟨0, by omega, rfl, rfl, rfl, Lib.hid (Below.refl _ _)⟩
    case round =>
      obtain ⟨i, hi', hg, rfl, rfl, HW⟩ := hrel
      have hg := hg.symm
      subst hg
      by_cases hlt : i < n
      · obtain ⟨o, ho⟩ : ∃ o, (offs (fld l 0))[i]? = some o := ⟨_, List.getElem?_eq_getElem (by rw [HNO.out]; exact hlt)⟩
        have HP := Lib.hid (putPart_succ l i o ho)
        have hlb := putPart_le l (fun i => (wfI_fld hw i).2) i
        obtain ⟨b, off, cp, e1, _, hbl, k0⟩ := R3.out.at (j := i) (by rw [List.length_map, HNL.out]; exact hlt)
        rw [List.length_map, HNL.out] at e1
        cases e1
        have k0 := k0.trans ((List.getElem?_eq_getElem _).symm.trans (nums_at l i o ho))
        have k1 := keepB HW.out k0 hbl
        have hvl := varAny_length (fld l o) (wfI_fld hw o).2
        have HV := Lib.hid (ref02_var_any (fld l o) (wfI_fld hw o).2)
        clear k0 ho
        generalize fld l o = x at k1 HP HV hvl
        have hiI : (i : Int) < (n : Int) := by omega
        have hi0 : (0 : Int) ≤ (i : Int) := by omega
        have hz1 : (str (putPart l i)).size ≤ 46 := by rw [str_size]; exact hlb
        have hz2 : (str (varAny x)).size ≤ 9 := by rw [str_size]; exact hvl
        have HPS2 : Hid (str (putPart l (i + 1)) = str (putPart l i) ++ str (varAny x)) := Lib.hid (by rw [HP.out, str_append])
        obtain ⟨SA, hSA⟩ : ∃ s, str (putPart l i) = s := ⟨_, rfl⟩
        obtain ⟨SB, hSB⟩ : ∃ s, str (varAny x) = s := ⟨_, rfl⟩
        rw [hSA] at hz1 HPS2 ⊢
        rw [hSB] at hz2 HPS2 HV
        clear hSA hSB
        have hadd : SA.size + SB.size ≤ 9223372036854775807 := by omega
        go_wp2_with fail
        refine (HV.out _).mono ?_
        rintro e w5 ⟨rfl, hb5⟩
        have HW5 := Lib.hid (HW.out.trans (hb5.mono HW.out.size))
        clear hb5 k1
        go_wp2_with fail
        go_roundg (n - (i + 1))
        case measure => omega
        case rel => exact ⟨i + 1, by omega, rfl, by go_num, by rw [HPS2.out, ← str_add2], HW5⟩
      · obtain rfl : i = n := by omega
        have HF : Hid (PS = str (putPart l i)) := Lib.hid (by
          rw [← HPS.out]
          unfold putS
          rw [if_pos HK.out]
          unfold putB putPart
          rw [List.take_of_length_le (by rw [HNO.out]; omega)])
        have HL5 := Lib.hid (L3.out.trans (HW.out.mono L3.out.size))
        go_wp2_with fail
        go_ret2
        exact ⟨by rw [HF.out]; rfl, HL5.out⟩
  · have hne : (CK == 0) = false := by rw [beq_eq_false_iff_ne]; exact h0
    have HP2 : Hid (PS = str []) := Lib.hid (by rw [← HPS.out]; unfold putS; rw [if_neg (by rw [HK.out]; exact h0)])
    clear h0
    go_wp2_with fail
    go_ret2
    exact ⟨by rw [HP2.out]; rfl, HB1.out⟩
end Go.Proofs.YtokghlmffkboiaaGreat
