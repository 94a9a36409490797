/-
  A message's bytes (reeve's layer 35): the walk.
-/
import Derived.Test.YtcibeiehdjekiaaGreatDoorMsgAll
import Derived.Test.YtcibeiehdjekiaaGreatDoorPutAll
import Derived.Test.YtcibeiehdjekiaaGreatDoorFrameBase
namespace Go.Proofs.YtcibeiehdjekiaaGreatDoor
open Go.RowKit
set_option linter.unusedVariables false
set_option linter.unusedSimpArgs false

/-- A message's body. -/
def putMB (l : List Int) : List UInt8 := Oct.fixB (fld l 0).toNat 1 ++ (allM (fld l 0)).flatMap (fun o => varAny (fld l o))
/-- A message's bytes, and the error. -/
def putM (l : List Int) : ByteArray × Int := if checkM l = 0 then sealF (str (putMB l)) else (str [], checkM l)
/-- The bytes that are written so far. -/
def putPartM (l : List Int) (i : Nat) : List UInt8 := Oct.fixB (fld l 0).toNat 1 ++ ((allM (fld l 0)).take i).flatMap (fun o => varAny (fld l o))
theorem putPartM_succ (l : List Int) (i o : Nat) (h : (allM (fld l 0))[i]? = some o) : putPartM l (i + 1) = putPartM l i ++ varAny (fld l o) := by
  obtain ⟨hi, e⟩ := List.getElem?_eq_some_iff.1 h
  unfold putPartM
  rw [List.take_succ_eq_append_getElem hi, List.flatMap_append, e]
  simp
theorem putPartM_le (l : List Int) (h : ∀ i, fld l i ≤ 9223372036854775807) (i : Nat) : (putPartM l i).length ≤ 64 := by
  unfold putPartM
  have h1 := flat_length l h ((allM (fld l 0)).take i)
  have h2 := allM_length (fld l 0)
  rw [List.length_take] at h1
  rw [List.length_append, Oct.fixB_length]
  omega
theorem putPartM_all (l : List Int) : putPartM l (allM (fld l 0)).length = putMB l := by unfold putPartM putMB; rw [List.take_length]
theorem putMB_le (l : List Int) (h : ∀ i, fld l i ≤ 9223372036854775807) : (putMB l).length ≤ 64 := by rw [← putPartM_all]; exact putPartM_le l h _
set_option maxRecDepth 100000 in
set_option maxHeartbeats 1600000 in
theorem msg_put (l : List Int) (hl : l.length = 12) (hw : wfI l) (w : World) (hL : LaidM w) :
    Calls Tryz.prog 7 #[.agg (cellsI l)] w fun e w' => e = .returned (.tuple #[.string (putM l).1, .int .i64 (putM l).2]) ∧ Below w.heap.size w w' := by
  have hu := Tryz.underlying25
  have hi := info_msg l hl
  have HCK := Lib.hid (fun w h => msg_check l hl w h)
  have HCC := Lib.hid (fun i (h : i < 12) => show (cellsI l)[i]? = some (.int .i64 (fld l i)) from cellsI_at (by omega))
  obtain ⟨PS, hPS⟩ : ∃ p, putM l = p := ⟨_, rfl⟩
  obtain ⟨CK, hCK⟩ : ∃ c, checkM l = c := ⟨_, rfl⟩
  have hcc := checkM_cases l
  rw [hPS]
  rw [hCK] at HCK hcc
  have HPS := Lib.hid hPS
  have HK := Lib.hid hCK
  clear hPS hCK
  obtain ⟨C, hC⟩ : ∃ C, cellsI l = C := ⟨_, rfl⟩
  rw [hC] at HCK HCC hi ⊢
  clear hC
  go_enter Tryz.func7, Tryz.ntmps7
  go_wp2_with (with_reducible refine ev_load rfl 25 (.tmp 1) rfl w.heap.size rfl 25 C _ (Blk.new w C _) hu rfl hi ?_)
  refine (HCK.out _ (hL.below ((Below.refl _ _).alloc (Nat.le_refl _) _))).mono ?_
  rintro e w1 ⟨rfl, hb1⟩
  have X0 := Lib.hid ((Blk.new w C 25).below hb1 (by simp))
  have hb1 : Below w.heap.size w w1 := ((Below.refl w.heap.size w).alloc (Nat.le_refl _) _).trans (hb1.mono (by simp))
  have HB1 := Lib.hid hb1
  have hs1 : w.heap.size < w1.heap.size := X0.out.lt
  clear hb1
  by_cases h0 : CK = 0
  · subst h0
    have hk := And.intro (checkM_ok HK.out).1 (checkM_kind HK.out)
    obtain ⟨kn, hkn⟩ : ∃ kn : Nat, fld l 0 = kn := ⟨(fld l 0).toNat, by omega⟩
    have hkb : (1 : Int) ≤ (kn : Int) ∧ (kn : Int) ≤ 8 := by omega
    obtain ⟨hk1, hk8⟩ := hkb
    have hcell := X0.out.cell (HCC.out 0 (by omega))
    rw [hkn] at hcell
    have HKN := Lib.hid hkn
    have HKE := Lib.hid hk.1
    clear hk hkn hcc
    have hcv : IntKind.u64.wrap (kn : Int) = (kn : Int) := by
      show (kn : Int) % 18446744073709551616 = kn
      omega
    go_wp2_with fail
    refine (octet_fixed kn 1 (by omega) (by decide) (by decide) _).mono ?_
    rintro e w2 ⟨rfl, hb2⟩
    obtain ⟨b, hb⟩ : ∃ b, w1.heap.size = b := ⟨_, rfl⟩
    have B2 : Blk w2 b #[.pointer none, .slice none 0 0] 44 := by rw [← hb]; exact (Blk.new w1 _ _).below hb2 (by simp)
    have X2 := (X0.out.alloc (.cells #[.pointer none, .slice none 0 0] 44)).below hb2 (by simp; omega)
    have hs2 : b < w2.heap.size := B2.lt
    have L2 : Below w.heap.size w w2 := (HB1.out.alloc (by omega) _).trans (hb2.mono (by simp; omega))
    rw [hb] at hs1 ⊢
    have X2H := Lib.hid X2
    have B2H := Lib.hid B2
    have L2H := Lib.hid L2
    clear hb2 hb hcell X2 B2 L2 X0 HB1
    go_wp2_with fail
    refine (bld_writeString 44 b 0 b #[.pointer none, .slice none 0 0] (.slice none 0 0) [] (str (Oct.fixB kn 1)) w2 lies_own (by decide) B2H.out (BldIn.fresh b w2 b) (by rw [str_size, Oct.fixB_length]; decide) (by omega) (Nat.le_refl _)).mono ?_
    rintro e w3 ⟨rfl, v3, hb3, hbi3, hc3, hown3⟩
    have X3 := X2H.out.chg hc3 (by simp [Value.ownBlock]; omega)
    have L3 : Below w.heap.size w w3 := L2H.out.trans (hc3.below (by omega) (fun k hk => by simp [Value.ownBlock] at hk; omega))
    have hs3 : w2.heap.size ≤ w3.heap.size := hc3.size
    have O3 : ∀ k, v3.ownBlock = some k → b ≤ k ∧ k < w3.heap.size := by
      intro k hk
      exact World.ownsRowF.lt hbi3.2.2.1 k hk
    have BI3 : BldIn (wrote #[.pointer none, .slice none 0 0] b 0 v3) b b 0 w3 v3 (putPartM l 0) := by
      have e : putPartM l 0 = [] ++ (str (Oct.fixB kn 1)).data.toList := by unfold putPartM; rw [HKN.out, str_list]; simp
      rw [e]; exact hbi3
    have X3H := Lib.hid X3
    have B3H := Lib.hid hb3
    have L3H := Lib.hid L3
    have O3H := Lib.hid O3
    have BI3H := Lib.hid BI3
    have hcell := X3.cell (HCC.out 0 (by omega))
    rw [HKN.out] at hcell
    clear X3 hb3 L3 O3 BI3 hbi3 hc3 hown3 X2H B2H L2H
    go_wp2_with fail
    refine (msg_all w.heap.size kn (by rw [← HKN.out]; exact HKE.out) w3 hcell).mono ?_
    rintro e w4 ⟨v1, rfl, hr, hb4⟩
    have hlen : (allM (kn : Int)).length ≠ 0 := by
      intro e; unfold allM at e; simp at e
    obtain ⟨n, hn⟩ : ∃ n, (allM (kn : Int)).length = n := ⟨_, rfl⟩
    rcases hr with ⟨_, _, _, hnil⟩ | ⟨r, off, cap, rfl, hr3, hr4, hrc⟩
    · exfalso; apply hlen
      have := congrArg List.length hnil
      rwa [ptrs_length] at this
    rw [ptrs_length, hn]
    have HRC : Hid (∀ j o, (allM (fld l 0))[j]? = some o → w4.cell? ⟨r, off + j, none⟩ = some (.pointer (some ⟨w.heap.size, o, none⟩))) := Lib.hid (fun j o hj => hrc j _ (by rw [HKN.out] at hj; simp [ptrs, hj]))
    have HN : Hid ((allM (fld l 0)).length = n) := Lib.hid (by rw [HKN.out]; exact hn)
    have X4 := Lib.hid (X3H.out.below hb4 (by omega))
    have B4 := Lib.hid (B3H.out.below hb4 (by omega))
    have BI4 := Lib.hid (BI3H.out.below hb4)
    have L4 := Lib.hid (L3H.out.trans (hb4.mono (by omega)))
    have O4 : Hid (∀ k, v3.ownBlock = some k → b ≤ k ∧ k ≠ r) := Lib.hid (fun k hk => by have := O3H.out k hk; omega)
    have hbr : b < r := by omega
    have hn5 : n ≤ 7 := by have := allM_length (kn : Int); omega
    clear hr3 hrc hlen hn hb4 X3H B3H BI3H L3H O3H hcell
    go_wp2_with fail
    go_loopg [20] n (fun gg s20 wr => ∃ (i : Nat) (cs : Array Value) (v : Value), i ≤ n ∧ gg = n - i ∧ s20 = .int .i64 i ∧ cs.size = 2 ∧ Hid (Blk wr b cs 44) ∧ Hid (BldIn cs b b 0 wr v (putPartM l i)) ∧ Hid (∀ k, v.ownBlock = some k → b ≤ k ∧ k ≠ r) ∧ Hid (Blk wr w.heap.size C 25) ∧ Hid (∀ j o, (allM (fld l 0))[j]? = some o → wr.cell? ⟨r, off + j, none⟩ = some (.pointer (some ⟨w.heap.size, o, none⟩))) ∧ Hid (Below w.heap.size w wr) ∧ r < wr.heap.size)
    case atStart => exact ⟨0, _, _, by omega, rfl, rfl, by simp [wrote], B4, BI4, O4, X4, HRC, L4, hr4⟩
    case round =>
      clear B4 BI4 O4 X4 HRC L4 hr4
      obtain ⟨i, cs, v, hi', hg, rfl, hcs, HB, HBI, HO, HX, HRC, HL, hrr⟩ := hrel
      have hg := hg.symm
      subst hg
      have hlb := putPartM_le l (fun i => (wfI_fld hw i).2) i
      have hbw := HB.out.lt
      by_cases hlt : i < n
      · obtain ⟨o, ho⟩ : ∃ o, (allM (fld l 0))[i]? = some o := ⟨_, List.getElem?_eq_getElem (by rw [HN.out]; exact hlt)⟩
        have hol := allM_lt _ o (List.mem_of_getElem? ho)
        have k1 := HRC.out i o ho
        have k2 := HX.out.cell (HCC.out o hol.2)
        have HP := Lib.hid (putPartM_succ l i o ho)
        have hvl := varAny_length (fld l o) (wfI_fld hw o).2
        have HV := Lib.hid (octet_var_any (fld l o) (wfI_fld hw o).2)
        generalize fld l o = x at k2 HP HV hvl
        have hiI : (i : Int) < (n : Int) := by omega
        have hi0 : (0 : Int) ≤ (i : Int) := by omega
        clear ho
        go_wp2_with fail
        refine (HV.out _).mono ?_
        rintro e w5 ⟨rfl, hb5⟩
        have HB5 := Lib.hid (HB.out.below hb5 hbw)
        have HBI5 := Lib.hid (HBI.out.below hb5)
        have HX5 := Lib.hid (HX.out.below hb5 HX.out.lt)
        have HL5 := Lib.hid (HL.out.trans (hb5.mono HL.out.size))
        have HRC5 : Hid (∀ j o, (allM (fld l 0))[j]? = some o → w5.cell? ⟨r, off + j, none⟩ = some (.pointer (some ⟨w.heap.size, o, none⟩))) := Lib.hid (fun j o hj => keepB hb5 (HRC.out j o hj) hrr)
        have hs5 : wr.heap.size ≤ w5.heap.size := hb5.size
        clear k1 k2 hb5 HB HBI HX HL HRC
        go_wp2_with fail
        refine (bld_writeString 44 b 0 b cs v (putPartM l i) (str (varAny x)) w5 (by rw [hcs]; exact lies_own) (by decide) HB5.out HBI5.out (by rw [str_size]; omega) (by omega) (Nat.le_refl _)).mono ?_
        rintro e w6 ⟨rfl, v6, hb6, hbi6, hc6, hown6⟩
        have HO6 : Hid (∀ k, v6.ownBlock = some k → b ≤ k ∧ k ≠ r) := Lib.hid (fun k hk => by
          rcases hown6 with h | ⟨q, h1, h2⟩
          · exact HO.out k (by rw [← h]; exact hk)
          · rw [hk] at h1; injection h1 with h1; omega)
        have HX6 := Lib.hid (HX5.out.chg hc6 (by
          rintro (h | h)
          · omega
          · have := (HO.out _ h.symm).1; omega))
        have HRC6 : Hid (∀ j o, (allM (fld l 0))[j]? = some o → w6.cell? ⟨r, off + j, none⟩ = some (.pointer (some ⟨w.heap.size, o, none⟩))) := Lib.hid (fun j o hj => (hc6.cell (p := ⟨r, off + j, none⟩) (by show r < _; omega) (by
          rintro (h | h)
          · have h : r = b := h; omega
          · exact (HO.out _ h.symm).2 rfl)).trans (HRC5.out j o hj))
        have HL6 := Lib.hid (HL5.out.trans (hc6.below HL5.out.size (fun k hk => by
          rcases hk with h | h
          · omega
          · have := (HO.out _ h.symm).1; omega)))
        have hs6 : w5.heap.size ≤ w6.heap.size := hc6.size
        have HB6 := Lib.hid hb6
        have HBI6 : Hid (BldIn (wrote cs b 0 v6) b b 0 w6 v6 (putPartM l (i + 1))) := Lib.hid (by rw [HP.out]; rw [str_list] at hbi6; exact hbi6)
        clear hb6 hbi6 hc6 hown6
        go_wp2_with fail
        go_roundg (n - (i + 1))
        case measure => omega
        case rel => exact ⟨i + 1, _, _, by omega, rfl, by go_num, by rw [wrote_size]; exact hcs, HB6, HBI6, HO6, HX6, HRC6, HL6, by omega⟩
      · obtain rfl : i = n := by omega
        have hst := bld_string 44 b 0 b cs v _ wr HB.out HBI.out (by omega)
        have HST := Lib.hid hst
        clear hst
        go_wp2_with fail
        refine HST.out.mono ?_
        rintro e w5 ⟨rfl, hb5, hbi5, hc5⟩
        have HL5 := Lib.hid (HL.out.trans (hc5.below HL.out.size (fun k hk => by have := (HO.out _ hk.symm).1; omega)))
        have SE := frame_seal_any (str (putPartM l i)) (by rw [str_size]; unfold maxLen; omega)
        have HF : sealF (str (putPartM l i)) = PS := by
          rw [← HPS.out]
          unfold putM
          rw [if_pos HK.out, ← putPartM_all, HN.out]
        rw [HF] at SE
        have hs2 : (⟨(putPartM l i).toArray⟩ : ByteArray) = str (putPartM l i) := rfl
        have SE2 : Hid (∀ w : World, Calls Tryz.prog 25 #[.string ⟨(putPartM l i).toArray⟩] w fun e w' => e = .returned (.tuple #[.string PS.1, .int .i64 PS.2]) ∧ Below w.heap.size w w') := Lib.hid SE
        clear hb5 hbi5 hc5 HST SE HF hs2
        go_wp2_with fail
        refine (SE2.out _).mono ?_
        rintro e w6 ⟨rfl, hb6⟩
        have HL6 := Lib.hid (HL5.out.trans (hb6.mono HL5.out.size))
        clear hb6
        go_wp2_with fail
        go_ret2
        exact ⟨rfl, HL6.out⟩
  · have hne : (CK == 0) = false := by rw [beq_eq_false_iff_ne]; exact h0
    have HP2 : Hid (PS = (str [], CK)) := Lib.hid (by rw [← HPS.out]; unfold putM; rw [if_neg (by rw [HK.out]; exact h0), HK.out])
    clear h0 hcc
    go_wp2_with fail
    go_ret2
    exact ⟨by rw [HP2.out]; rfl, HB1.out⟩
end Go.Proofs.YtcibeiehdjekiaaGreatDoor
