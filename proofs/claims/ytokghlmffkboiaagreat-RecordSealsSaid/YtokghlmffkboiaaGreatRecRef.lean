/-
  The reference of layer 20 (records), as contracts: Check, Seal and Open.
-/
import Derived.Test.YtokghlmffkboiaaGreatRecEq
import Derived.BigQuiet
namespace Go.Proofs.YtokghlmffkboiaaGreat
open Go.RowKit
set_option linter.unusedVariables false
set_option linter.unusedSimpArgs false

set_option maxRecDepth 100000 in
set_option maxHeartbeats 1600000 in
theorem ref20_check (r : List Int) (hr : r.length = 10) (w : World) :
    Calls Tryz.prog 14 #[.agg (cellsI r)] w fun e w' => e = .returned (.int .i64 (recCheck r)) ∧ Below w.heap.size w w' := by
  obtain ⟨q, t, k, n, j, i, p, x, y, z, rfl⟩ := ten_of hr
  clear hr
  have hC := ref18_check [k, n, j, i, p, x, y, z] rfl
  have hR : recCheck [q, t, k, n, j, i, p, x, y, z] = if inR q 1 2147483647 = false ∨ inR t 1 4294967295 = false then 1 else checkL [k, n, j, i, p, x, y, z] := rfl
  have a1 : cellsI [q, t, k, n, j, i, p, x, y, z] = #[.int .i64 q, .int .i64 t, .int .i64 k, .int .i64 n, .int .i64 j, .int .i64 i, .int .i64 p, .int .i64 x, .int .i64 y, .int .i64 z] := rfl
  have a2 : cellsI [k, n, j, i, p, x, y, z] = #[.int .i64 k, .int .i64 n, .int .i64 j, .int .i64 i, .int .i64 p, .int .i64 x, .int .i64 y, .int .i64 z] := rfl
  rw [a1]
  rw [a2] at hC
  clear a1 a2
  generalize checkL [k, n, j, i, p, x, y, z] = CK at hC hR
  obtain ⟨RC, hRC⟩ : ∃ c, recCheck [q, t, k, n, j, i, p, x, y, z] = c := ⟨_, rfl⟩
  rw [hRC] at hR ⊢
  clear hRC
  obtain ⟨W, hW⟩ : ∃ W, w.alloc (.cells #[.int .i64 q, .int .i64 t, .int .i64 k, .int .i64 n, .int .i64 j, .int .i64 i, .int .i64 p, .int .i64 x, .int .i64 y, .int .i64 z] 27) = W := ⟨_, rfl⟩
  have HB : Hid (Blk W w.heap.size #[.int .i64 q, .int .i64 t, .int .i64 k, .int .i64 n, .int .i64 j, .int .i64 i, .int .i64 p, .int .i64 x, .int .i64 y, .int .i64 z] 27) := Lib.hid (by rw [← hW]; exact Blk.new w _ _)
  have HL : Hid (Below w.heap.size w W) := Lib.hid (by rw [← hW]; exact (Below.refl w.heap.size w).alloc (Nat.le_refl _) _)
  have HW := Lib.hid hW
  have HC := Lib.hid hC
  have HR := Lib.hid hR
  clear hW hC hR
  have c0 := HB.out.cell (i := 0) rfl
  have c1 := HB.out.cell (i := 1) rfl
  have c2 := HB.out.cell (i := 2) rfl
  have c3 := HB.out.cell (i := 3) rfl
  have c4 := HB.out.cell (i := 4) rfl
  have c5 := HB.out.cell (i := 5) rfl
  have c6 := HB.out.cell (i := 6) rfl
  have c7 := HB.out.cell (i := 7) rfl
  have c8 := HB.out.cell (i := 8) rfl
  have c9 := HB.out.cell (i := 9) rfl
  go_enter Tryz.func14, Tryz.ntmps14
  go_upto_region 1 with fail
  rw [HW.out]
  clear HW
  by_cases h1 : q < 1
  · have HR2 : Hid (RC = 1) := Lib.hid (by rw [HR.out, if_pos (.inl (inR_no (.inl h1)))])
    clear HR
    go_wp2_with fail
    go_ret
    exact ⟨by rw [HR2.out]; rfl, HL.out⟩
  have h1' : 1 ≤ q := by omega
  by_cases h2 : 2147483647 < q
  · have HR2 : Hid (RC = 1) := Lib.hid (by rw [HR.out, if_pos (.inl (inR_no (.inr h2)))])
    clear HR
    go_wp2_with fail
    go_ret
    exact ⟨by rw [HR2.out]; rfl, HL.out⟩
  have h2' : q ≤ 2147483647 := by omega
  by_cases h3 : t < 1
  · have HR2 : Hid (RC = 1) := Lib.hid (by rw [HR.out, if_pos (.inr (inR_no (.inl h3)))])
    clear HR
    go_wp2_with fail
    go_ret
    exact ⟨by rw [HR2.out]; rfl, HL.out⟩
  have h3' : 1 ≤ t := by omega
  by_cases h4 : 4294967295 < t
  · have HR2 : Hid (RC = 1) := Lib.hid (by rw [HR.out, if_pos (.inr (inR_no (.inr h4)))])
    clear HR
    go_wp2_with fail
    go_ret
    exact ⟨by rw [HR2.out]; rfl, HL.out⟩
  have h4' : t ≤ 4294967295 := by omega
  have HR2 : Hid (RC = CK) := Lib.hid (by rw [HR.out, if_neg (by rw [inR_yes h1' h2', inR_yes h3' h4']; simp)])
  clear HR
  go_wp2_with fail
  refine (HC.out _).mono ?_
  rintro e w4 ⟨rfl, hb4⟩
  have HL4 := Lib.hid (HL.out.trans (hb4.mono HL.out.size))
  clear hb4
  go_wp2_with fail
  go_ret
  exact ⟨by rw [HR2.out]; rfl, HL4.out⟩
set_option maxRecDepth 100000 in
set_option maxHeartbeats 3200000 in
theorem ref20_seal (r : List Int) (hr : r.length = 10) (hw : wfI r) (w : World) :
    Calls Tryz.prog 10 #[.agg (cellsI r)] w fun e w' => e = .returned (.tuple #[.string (sealR r).1, .int .i64 (sealR r).2]) ∧ Below w.heap.size w w' := by
  have hu := Tryz.underlying27
  have hC := ref20_check r hr
  have hwe : wfI (r.drop 2) := fun a h => hw a (List.mem_of_mem_drop h)
  have hle := fun h => recB_le r h hwe
  have hz := fun h => recCheck_zero (r := r) h
  have hwq := fun i => wfI_fld hw i
  obtain ⟨q, t, k, n, j, i, p, x, y, z, rfl⟩ := ten_of hr
  clear hr
  have hP := ref18_put [k, n, j, i, p, x, y, z] rfl hwe
  have hS1 : recCheck [q, t, k, n, j, i, p, x, y, z] = 0 → sealR [q, t, k, n, j, i, p, x, y, z] = (sealB (str (recB [q, t, k, n, j, i, p, x, y, z])), 0) := by intro h; unfold sealR; rw [if_pos h]
  have hS2 : recCheck [q, t, k, n, j, i, p, x, y, z] ≠ 0 → sealR [q, t, k, n, j, i, p, x, y, z] = (⟨#[]⟩, recCheck [q, t, k, n, j, i, p, x, y, z]) := by intro h; unfold sealR; rw [if_neg h]
  have hB : recB [q, t, k, n, j, i, p, x, y, z] = varAny q ++ varAny t ++ putB [k, n, j, i, p, x, y, z] := rfl
  have hz3 : recCheck [q, t, k, n, j, i, p, x, y, z] = 0 → checkL [k, n, j, i, p, x, y, z] = 0 := fun h => (hz h).2.2
  have hps : checkL [k, n, j, i, p, x, y, z] = 0 → putS [k, n, j, i, p, x, y, z] = str (putB [k, n, j, i, p, x, y, z]) := by intro h; unfold putS; rw [if_pos h]
  have hq9 : q ≤ 9223372036854775807 := (hwq 0).2
  have ht9 : t ≤ 9223372036854775807 := (hwq 1).2
  have V1 := ref02_var_any q hq9
  have V2 := ref02_var_any t ht9
  have a1 : cellsI [q, t, k, n, j, i, p, x, y, z] = #[.int .i64 q, .int .i64 t, .int .i64 k, .int .i64 n, .int .i64 j, .int .i64 i, .int .i64 p, .int .i64 x, .int .i64 y, .int .i64 z] := rfl
  have a2 : cellsI [k, n, j, i, p, x, y, z] = #[.int .i64 k, .int .i64 n, .int .i64 j, .int .i64 i, .int .i64 p, .int .i64 x, .int .i64 y, .int .i64 z] := rfl
  rw [a1] at hC ⊢
  rw [a2] at hP
  clear a1 a2 hz hwe hwq hw hq9 ht9
  generalize sealR [q, t, k, n, j, i, p, x, y, z] = SR at hS1 hS2 ⊢
  generalize recCheck [q, t, k, n, j, i, p, x, y, z] = RC at hC hle hS1 hS2 hz3
  generalize putS [k, n, j, i, p, x, y, z] = PS at hP hps
  generalize checkL [k, n, j, i, p, x, y, z] = CE at hP hz3 hps
  generalize putB [k, n, j, i, p, x, y, z] = PB at hB hps
  generalize recB [q, t, k, n, j, i, p, x, y, z] = RB at hle hS1 hB
  generalize varAny q = VA at V1 hB
  generalize varAny t = VB at V2 hB
  obtain ⟨S1, S2⟩ := SR
  have HC := Lib.hid hC
  have HLE := Lib.hid hle
  have HP := Lib.hid hP
  have HS1 := Lib.hid hS1
  have HS2 := Lib.hid hS2
  have HBB := Lib.hid hB
  have HZ := Lib.hid hz3
  have HPS := Lib.hid hps
  have HV1 := Lib.hid V1
  have HV2 := Lib.hid V2
  clear hC hle hP hS1 hS2 hB hz3 hps V1 V2
  obtain ⟨W, hW⟩ : ∃ W, w.alloc (.cells #[.int .i64 q, .int .i64 t, .int .i64 k, .int .i64 n, .int .i64 j, .int .i64 i, .int .i64 p, .int .i64 x, .int .i64 y, .int .i64 z] 27) = W := ⟨_, rfl⟩
  have HB : Hid (Blk W w.heap.size #[.int .i64 q, .int .i64 t, .int .i64 k, .int .i64 n, .int .i64 j, .int .i64 i, .int .i64 p, .int .i64 x, .int .i64 y, .int .i64 z] 27) := Lib.hid (by rw [← hW]; exact Blk.new w _ _)
  have HL : Hid (Below w.heap.size w W) := Lib.hid (by rw [← hW]; exact (Below.refl w.heap.size w).alloc (Nat.le_refl _) _)
  have HW := Lib.hid hW
  clear hW
  go_enter Tryz.func10, Tryz.ntmps10
  go_upto_region 1 with fail
  rw [HW.out]
  clear HW
  go_wp2_with (with_reducible refine ev_load rfl 27 (.tmp 1) rfl w.heap.size rfl 27 #[.int .i64 q, .int .i64 t, .int .i64 k, .int .i64 n, .int .i64 j, .int .i64 i, .int .i64 p, .int .i64 x, .int .i64 y, .int .i64 z] _ HB.out hu rfl (by kernel_rfl) ?_)
  refine (HC.out _).mono ?_
  rintro e w1 ⟨rfl, hb1⟩
  have HB1 := Lib.hid (HB.out.below hb1 HB.out.lt)
  have HL1 := Lib.hid (HL.out.trans (hb1.mono HL.out.size))
  clear hb1 HB HL HC
  by_cases h0 : RC = 0
  · subst h0
    have hce := HZ.out rfl
    subst hce
    have hps := HPS.out rfl
    subst hps
    have HS := Lib.hid (HS1.out rfl)
    have hle := HLE.out rfl
    clear HS1 HS2 HZ HPS HLE
    have c0 := HB1.out.cell (i := 0) rfl
    have c1 := HB1.out.cell (i := 1) rfl
    have c2 := HB1.out.cell (i := 2) rfl
    have c3 := HB1.out.cell (i := 3) rfl
    have c4 := HB1.out.cell (i := 4) rfl
    have c5 := HB1.out.cell (i := 5) rfl
    have c6 := HB1.out.cell (i := 6) rfl
    have c7 := HB1.out.cell (i := 7) rfl
    have c8 := HB1.out.cell (i := 8) rfl
    have c9 := HB1.out.cell (i := 9) rfl
    go_wp2_with fail
    refine (HP.out _).mono ?_
    rintro e w2 ⟨rfl, hb2⟩
    have HB2 := Lib.hid (HB1.out.below hb2 HB1.out.lt)
    have HL2 := Lib.hid (HL1.out.trans (hb2.mono HL1.out.size))
    clear hb2 HB1 HL1 HP c0 c1 c2 c3 c4 c5 c6 c7 c8 c9
    have d0 := HB2.out.cell (i := 0) rfl
    have d1 := HB2.out.cell (i := 1) rfl
    have hlt := HB2.out.lt
    have hsum : (str VA ++ str VB) ++ str PB = str RB := by rw [HBB.out, str_append, str_append]
    have hsz : (str RB).size ≤ 64 := by rw [str_size]; exact hle
    have hz2 : (str VA).size + (str VB).size + (str PB).size = (str RB).size := by rw [← hsum, ByteArray.size_append, ByteArray.size_append]
    have HF := ref04_seal (str RB) (by omega)
    have hn1 : ¬ (9223372036854775807 < (str VA).size + (str VB).size) := by omega
    have hn2 : ¬ (9223372036854775807 < (str VA).size + (str VB).size + (str PB).size) := by omega
    rw [← hsum] at HF
    have HF := Lib.hid HF
    rw [← hsum] at HS
    clear hsz hz2 hsum hle HBB
    obtain ⟨SA, hSA⟩ : ∃ s, str VA = s := ⟨_, rfl⟩
    obtain ⟨SB, hSB⟩ : ∃ s, str VB = s := ⟨_, rfl⟩
    obtain ⟨SC, hSC⟩ : ∃ s, str PB = s := ⟨_, rfl⟩
    rw [hSA, hSB, hSC] at hn2 HF HS
    rw [hSA, hSB] at hn1
    rw [hSA] at HV1
    rw [hSB] at HV2
    rw [hSC]
    clear hSA hSB hSC
    go_upto_region 5 with fail
    go_region_held3 (fun w' => w'.cell? ⟨w.heap.size, 0, none⟩ = some (.int .i64 q) ∧ w'.cell? ⟨w.heap.size, 1, none⟩ = some (.int .i64 t))
      (first | (go_keep; done) | exact ⟨keepB hwc d0 hlt, keepB hwc d1 hlt⟩ | exact ⟨keepB hwb d0 hlt, keepB hwb d1 hlt⟩ | exact ⟨keepB hwa d0 hlt, keepB hwa d1 hlt⟩)
      (first
        | (go_at_call 40; (with_reducible refine (HV1.out _).mono ?_); rintro e wa ⟨rfl, hb⟩; have hwa : Below w2.heap.size w2 wa := ⟨hb.os, hb.tape, hb.output, hb.size, hb.block⟩; clear hb)
        | (go_at_call 40; (with_reducible refine (HV2.out _).mono ?_); rintro e wb ⟨rfl, hb⟩; have hwb : Below w2.heap.size w2 wb := hwa.trans (Below.mono (by exact ⟨hb.os, hb.tape, hb.output, hb.size, hb.block⟩) hwa.size); clear hb)
        | (go_at_call 39; (with_reducible refine (HF.out _).mono ?_); rintro e wc ⟨rfl, hb⟩; have hwc : Below w2.heap.size w2 wc := hwb.trans (Below.mono (by exact ⟨hb.os, hb.tape, hb.output, hb.size, hb.block⟩) hwb.size); clear hb))
    have HL4 := Lib.hid (HL2.out.trans (hwc.mono HL2.out.size))
    go_wp2_with fail
    go_ret2
    exact ⟨by rw [(Prod.mk.inj HS.out).1, (Prod.mk.inj HS.out).2]; rfl, HL4.out⟩
  · have hne : (RC == 0) = false := by rw [beq_eq_false_iff_ne]; exact h0
    have HS := Lib.hid (HS2.out h0)
    clear h0 HS1 HS2 HZ HPS HLE
    go_wp2_with fail
    go_ret2
    exact ⟨by rw [(Prod.mk.inj HS.out).1, (Prod.mk.inj HS.out).2]; rfl, HL1.out⟩
theorem tookVal_eq (t : Oct.Took) : tookVal t = .tuple #[.int .i64 (tookN t), .int .i64 (tookLen t), .int .i64 (tookE t)] := by cases t <;> rfl
theorem rec_one {q t : Int} {l : List Int} (h : checkL l = 0) (h2 : recCheck (q :: t :: l) ≠ 0) : recCheck (q :: t :: l) = 1 := by
  have hR : recCheck (q :: t :: l) = if inR q 1 2147483647 = false ∨ inR t 1 4294967295 = false then 1 else checkL l := rfl
  rw [hR] at h2 ⊢
  split
  · rfl
  · rename_i hc; rw [if_neg hc, h] at h2; exact absurd rfl h2
theorem openR_flat (E E1 E2 GE RC : Int) (N : Nat) (R : List Int) :
    (if E ≠ 0 then (zeroR, 0, E) else if ((if E1 ≠ 0 then (zeroR, E1) else if E2 ≠ 0 then (zeroR, E2) else if GE ≠ 0 then (zeroR, GE) else if RC ≠ 0 then (zeroR, RC) else (R, 0)) : List Int × Int).2 ≠ 0 then
      (zeroR, 0, ((if E1 ≠ 0 then (zeroR, E1) else if E2 ≠ 0 then (zeroR, E2) else if GE ≠ 0 then (zeroR, GE) else if RC ≠ 0 then (zeroR, RC) else (R, 0)) : List Int × Int).2) else
      (((if E1 ≠ 0 then (zeroR, E1) else if E2 ≠ 0 then (zeroR, E2) else if GE ≠ 0 then (zeroR, GE) else if RC ≠ 0 then (zeroR, RC) else (R, 0)) : List Int × Int).1, N, 0)) =
    (if E ≠ 0 then (zeroR, 0, E) else if E1 ≠ 0 then (zeroR, 0, E1) else if E2 ≠ 0 then (zeroR, 0, E2) else if GE ≠ 0 then (zeroR, 0, GE) else if RC ≠ 0 then (zeroR, 0, RC) else (R, N, 0) : List Int × Nat × Int) := by
  by_cases h0 : E = 0 <;> by_cases h1 : E1 = 0 <;> by_cases h2 : E2 = 0 <;> by_cases h3 : GE = 0 <;> by_cases h4 : RC = 0 <;> simp [h0, h1, h2, h3, h4]
set_option maxRecDepth 100000 in
set_option maxHeartbeats 6400000 in
theorem ref20_open (s : ByteArray) (hs : s.size ≤ maxLen) (w : World) :
    Calls Tryz.prog 12 #[.string s] w fun e w' => e = .returned (.tuple #[.agg (cellsI (openR s).1), .int .i64 (openR s).2.1, .int .i64 (openR s).2.2]) ∧ Below w.heap.size w w' := by
  have hu := Tryz.underlying27
  have hue := Tryz.underlying25
  have HO := ref04_open s hs
  have hfs := Nat.le_trans (openF_size s) hs
  have hflat : openR s = _ := openR_flat (openF s).2.2 (tookE (Oct.takeVar (rest (openF s).1 0))) (tookE (Oct.takeVar (rest (openF s).1 (0 + tookLen (Oct.takeVar (rest (openF s).1 0))))))
    (getL ((openF s).1.extract (0 + tookLen (Oct.takeVar (rest (openF s).1 0)) + tookLen (Oct.takeVar (rest (openF s).1 (0 + tookLen (Oct.takeVar (rest (openF s).1 0)))))) (openF s).1.size)).2
    (recCheck (tookN (Oct.takeVar (rest (openF s).1 0)) :: tookN (Oct.takeVar (rest (openF s).1 (0 + tookLen (Oct.takeVar (rest (openF s).1 0))))) :: (getL ((openF s).1.extract (0 + tookLen (Oct.takeVar (rest (openF s).1 0)) + tookLen (Oct.takeVar (rest (openF s).1 (0 + tookLen (Oct.takeVar (rest (openF s).1 0)))))) (openF s).1.size)).1))
    (openF s).2.1 (tookN (Oct.takeVar (rest (openF s).1 0)) :: tookN (Oct.takeVar (rest (openF s).1 (0 + tookLen (Oct.takeVar (rest (openF s).1 0))))) :: (getL ((openF s).1.extract (0 + tookLen (Oct.takeVar (rest (openF s).1 0)) + tookLen (Oct.takeVar (rest (openF s).1 (0 + tookLen (Oct.takeVar (rest (openF s).1 0)))))) (openF s).1.size)).1)
  generalize openR s = O at hflat ⊢
  obtain ⟨O1, O2, O3⟩ := O
  generalize (openF s).2.2 = E at HO hflat
  generalize (openF s).2.1 = N at HO hflat
  generalize (openF s).1 = F at HO hflat hfs
  have ha1 := took_le F 0 (Nat.zero_le _)
  have ha2 := took_le F _ ha1
  have T1 := ref02_takeVar F hfs
  have T2 := ref02_takeVar (F.extract (0 + tookLen (Oct.takeVar (rest F 0))) F.size) (by rw [ByteArray.size_extract]; omega)
  rw [rest_extract, tookVal_eq] at T2
  rw [tookVal_eq] at T1
  have GT := ref18_get (F.extract (0 + tookLen (Oct.takeVar (rest F 0)) + tookLen (Oct.takeVar (rest F (0 + tookLen (Oct.takeVar (rest F 0)))))) F.size) (by rw [ByteArray.size_extract]; omega)
  have hgl := getL_len (F.extract (0 + tookLen (Oct.takeVar (rest F 0)) + tookLen (Oct.takeVar (rest F (0 + tookLen (Oct.takeVar (rest F 0)))))) F.size)
  have hgc : (getL (F.extract (0 + tookLen (Oct.takeVar (rest F 0)) + tookLen (Oct.takeVar (rest F (0 + tookLen (Oct.takeVar (rest F 0)))))) F.size)).2 = 0 → _ := fun h => (put_get _ h).1
  rw [Nat.zero_add] at ha1 ha2 T2 GT hgl hgc hflat
  generalize (getL (F.extract (tookLen (Oct.takeVar (rest F 0)) + tookLen (Oct.takeVar (rest F (tookLen (Oct.takeVar (rest F 0)))))) F.size)).2 = GE at GT hgc hflat
  generalize (getL (F.extract (tookLen (Oct.takeVar (rest F 0)) + tookLen (Oct.takeVar (rest F (tookLen (Oct.takeVar (rest F 0)))))) F.size)).1 = GD at GT hgc hgl hflat
  generalize Oct.takeVar (rest F (tookLen (Oct.takeVar (rest F 0)))) = U2 at T2 ha2 GT hflat
  generalize Oct.takeVar (rest F 0) = U1 at T1 T2 ha1 ha2 GT hflat
  generalize tookE U1 = E1 at T1 hflat
  generalize tookN U1 = Q at T1 hflat
  generalize tookLen U1 = A1 at T1 T2 ha1 ha2 GT
  generalize tookE U2 = E2 at T2 hflat
  generalize tookN U2 = T at T2 hflat
  generalize tookLen U2 = A2 at T2 ha2 GT
  obtain ⟨g0, g1, g2, g3, g4, g5, g6, g7, rfl⟩ := eight_of hgl
  have hC := ref20_check [Q, T, g0, g1, g2, g3, g4, g5, g6, g7] rfl
  have hone := fun h => rec_one (q := Q) (t := T) (hgc h)
  have a1 : cellsI [g0, g1, g2, g3, g4, g5, g6, g7] = #[.int .i64 g0, .int .i64 g1, .int .i64 g2, .int .i64 g3, .int .i64 g4, .int .i64 g5, .int .i64 g6, .int .i64 g7] := rfl
  have a2 : cellsI [Q, T, g0, g1, g2, g3, g4, g5, g6, g7] = #[.int .i64 Q, .int .i64 T, .int .i64 g0, .int .i64 g1, .int .i64 g2, .int .i64 g3, .int .i64 g4, .int .i64 g5, .int .i64 g6, .int .i64 g7] := rfl
  rw [a1] at GT
  rw [a2] at hC
  generalize recCheck [Q, T, g0, g1, g2, g3, g4, g5, g6, g7] = RC at hC hone hflat
  obtain ⟨A3, hA3⟩ : ∃ a, A1 + A2 = a := ⟨_, rfl⟩
  rw [hA3] at GT ha2
  have hfI : (F.size : Int) ≤ 9223372036854775807 := by unfold maxLen at hfs; omega
  have hw : IntKind.i64.wrap ((A1 : Int) + (A2 : Int)) = (A3 : Int) := by rw [IntKind.wrap_i64]; omega
  have ha1' : (A1 : Int) ≤ (F.size : Int) := by omega
  have ha3' : (A3 : Int) ≤ (F.size : Int) := by omega
  have p1 : (0 : Int) ≤ (A1 : Int) := by omega
  have p3 : (0 : Int) ≤ (A3 : Int) := by omega
  clear hgc hgl a1 ha1 ha2 hA3 hfs
  have HO := Lib.hid HO
  have HT1 := Lib.hid T1
  have HT2 := Lib.hid T2
  have HGT := Lib.hid GT
  have HC := Lib.hid hC
  have HONE := Lib.hid hone
  have HRL := Lib.hid hflat
  have A2E := Lib.hid a2
  clear T1 T2 GT hC hone hflat a2
  obtain ⟨b, hb⟩ : ∃ b, w.heap.size = b := ⟨_, rfl⟩
  have k0 : Blk (w.alloc (.cells (cellsI zeroR) 27)) b (cellsI zeroR) 27 := by rw [← hb]; exact Blk.new w _ _
  have kz : (w.alloc (.cells (cellsI zeroR) 27)).heap.size = b + 1 := by simp [hb]
  have kb : Below b w (w.alloc (.cells (cellsI zeroR) 27)) := (Below.refl b w).alloc (by omega) _
  obtain ⟨W, hW⟩ : ∃ W, w.alloc (.cells (cellsI zeroR) 27) = W := ⟨_, rfl⟩
  rw [hW] at k0 kz kb
  have n0 := Blk.new W (cellsI zeroR) 27
  rw [kz] at n0
  have k1 := k0.alloc (.cells (cellsI zeroR) 27)
  have kz1 : (W.alloc (.cells (cellsI zeroR) 27)).heap.size = b + 2 := by simp [kz]
  have kb1 := kb.alloc (by omega) (.cells (cellsI zeroR) 27)
  obtain ⟨V, hV⟩ : ∃ V, W.alloc (.cells (cellsI zeroR) 27) = V := ⟨_, rfl⟩
  rw [hV] at k1 n0 kz1 kb1
  have hW2 : w.alloc (.cells #[Value.int .i64 0, Value.int .i64 0, Value.int .i64 0, Value.int .i64 0, Value.int .i64 0, Value.int .i64 0, Value.int .i64 0, Value.int .i64 0, Value.int .i64 0, Value.int .i64 0] 27) = W := hW
  have hV2 : W.alloc (.cells #[Value.int .i64 0, Value.int .i64 0, Value.int .i64 0, Value.int .i64 0, Value.int .i64 0, Value.int .i64 0, Value.int .i64 0, Value.int .i64 0, Value.int .i64 0, Value.int .i64 0] 27) = V := hV
  have HW2 := Lib.hid hW2
  have HV2 := Lib.hid hV2
  have HZ := Lib.hid kz
  have K0 := Lib.hid k1
  have N0 := Lib.hid n0
  have KB := Lib.hid kb1
  have hsv : b + 2 ≤ V.heap.size := by omega
  rw [hb]
  clear hW hV hW2 hV2 k0 kb k1 kz n0 kb1 kz1
  go_enter Tryz.func12, Tryz.ntmps12
  go_upto_region 1 with fail
  rw [HW2.out]
  go_upto_region 2 with fail
  rw [HV2.out]
  rw [HZ.out]
  clear HW2 HV2 HZ
  go_wp2_with fail
  refine (HO.out V).mono ?_
  rintro e w1 ⟨rfl, hb1⟩
  have K1 := Lib.hid (K0.out.below hb1 K0.out.lt)
  have N1 := Lib.hid (N0.out.below hb1 N0.out.lt)
  have KB1 := Lib.hid (KB.out.trans (hb1.mono (by omega)))
  have L1 : b + 2 ≤ w1.heap.size := by have := hb1.size; omega
  clear hb1 K0 N0 KB HO hsv
  by_cases e0 : E = 0
  rotate_left
  · have hne : (E == 0) = false := by rw [beq_eq_false_iff_ne]; exact e0
    have HRL9 : Hid ((O1, O2, O3) = (zeroR, 0, E)) := Lib.hid (by rw [HRL.out, if_pos e0])
    clear HRL
    go_wp2_with (first
      | (with_reducible refine ev_load rfl 27 (.tmp 5) rfl (b + 1) rfl 27 (cellsI zeroR) _ N1.out hu rfl (info_record zeroR rfl) ?_)
      | (with_reducible refine ev_store rfl 27 (.tmp 2) (.tmp 27) rfl b (cellsI zeroR) rfl rfl 27 _ K1.out (by kernel_rfl) rfl (cellsI_one _) ?_; intro w9 hb9 hc9 hz9))
    refine bodyPost_ret (res_ctt rfl _ b 27 (cellsI zeroR) _ rfl hb9 hu rfl (info_record zeroR rfl)) rfl ⟨by have h := HRL9.out; injection h with h1 h2; injection h2 with h2 h3; rw [h1, h2, h3]; rfl, ?_⟩
    exact Chg.belowOf KB1.out hc9 (fun k hk => by omega) (by have := KB1.out.size; omega)
  subst e0
  have HRLx1 : Hid ((O1, O2, O3) = (if E1 ≠ 0 then (zeroR, 0, E1) else if E2 ≠ 0 then (zeroR, 0, E2) else if GE ≠ 0 then (zeroR, 0, GE) else if RC ≠ 0 then (zeroR, 0, RC) else ([Q, T, g0, g1, g2, g3, g4, g5, g6, g7], N, 0))) := Lib.hid (by rw [HRL.out, if_neg (show ¬ ((0 : Int) ≠ 0) by simp)])
  clear HRL
  go_wp2_with fail
  refine (HT1.out w1).mono ?_
  rintro e w2 ⟨rfl, hb2⟩
  have K2 := Lib.hid (K1.out.below hb2 K1.out.lt)
  have N2 := Lib.hid (N1.out.below hb2 N1.out.lt)
  have KB2 := Lib.hid (KB1.out.trans (hb2.mono (by omega)))
  have L2 : b + 2 ≤ w2.heap.size := by have := hb2.size; omega
  clear hb2 K1 N1 KB1 HT1 L1
  by_cases e1 : E1 = 0
  rotate_left
  · have hne : (E1 == 0) = false := by rw [beq_eq_false_iff_ne]; exact e1
    have HRL9 : Hid ((O1, O2, O3) = (zeroR, 0, E1)) := Lib.hid (by rw [HRLx1.out, if_pos e1])
    clear HRLx1
    go_wp2_with (first
      | (with_reducible refine ev_load rfl 27 (.tmp 5) rfl (b + 1) rfl 27 (cellsI zeroR) _ N2.out hu rfl (info_record zeroR rfl) ?_)
      | (with_reducible refine ev_store rfl 27 (.tmp 2) (.tmp 37) rfl b (cellsI zeroR) rfl rfl 27 _ K2.out (by kernel_rfl) rfl (cellsI_one _) ?_; intro w9 hb9 hc9 hz9))
    refine bodyPost_ret (res_ctt rfl _ b 27 (cellsI zeroR) _ rfl hb9 hu rfl (info_record zeroR rfl)) rfl ⟨by have h := HRL9.out; injection h with h1 h2; injection h2 with h2 h3; rw [h1, h2, h3]; rfl, ?_⟩
    exact Chg.belowOf KB2.out hc9 (fun k hk => by omega) (by have := KB2.out.size; omega)
  subst e1
  have HRLx2 : Hid ((O1, O2, O3) = (if E2 ≠ 0 then (zeroR, 0, E2) else if GE ≠ 0 then (zeroR, 0, GE) else if RC ≠ 0 then (zeroR, 0, RC) else ([Q, T, g0, g1, g2, g3, g4, g5, g6, g7], N, 0))) := Lib.hid (by rw [HRLx1.out, if_neg (show ¬ ((0 : Int) ≠ 0) by simp)])
  clear HRLx1
  go_wp2_with fail
  refine (HT2.out w2).mono ?_
  rintro e w3 ⟨rfl, hb3⟩
  have K3 := Lib.hid (K2.out.below hb3 K2.out.lt)
  have N3 := Lib.hid (N2.out.below hb3 N2.out.lt)
  have KB3 := Lib.hid (KB2.out.trans (hb3.mono (by omega)))
  have L3 : b + 2 ≤ w3.heap.size := by have := hb3.size; omega
  clear hb3 K2 N2 KB2 HT2 L2
  by_cases e2 : E2 = 0
  rotate_left
  · have hne : (E2 == 0) = false := by rw [beq_eq_false_iff_ne]; exact e2
    have HRL9 : Hid ((O1, O2, O3) = (zeroR, 0, E2)) := Lib.hid (by rw [HRLx2.out, if_pos e2])
    clear HRLx2
    go_wp2_with (first
      | (with_reducible refine ev_load rfl 27 (.tmp 5) rfl (b + 1) rfl 27 (cellsI zeroR) _ N3.out hu rfl (info_record zeroR rfl) ?_)
      | (with_reducible refine ev_store rfl 27 (.tmp 2) (.tmp 49) rfl b (cellsI zeroR) rfl rfl 27 _ K3.out (by kernel_rfl) rfl (cellsI_one _) ?_; intro w9 hb9 hc9 hz9))
    refine bodyPost_ret (res_ctt rfl _ b 27 (cellsI zeroR) _ rfl hb9 hu rfl (info_record zeroR rfl)) rfl ⟨by have h := HRL9.out; injection h with h1 h2; injection h2 with h2 h3; rw [h1, h2, h3]; rfl, ?_⟩
    exact Chg.belowOf KB3.out hc9 (fun k hk => by omega) (by have := KB3.out.size; omega)
  subst e2
  have HRLx3 : Hid ((O1, O2, O3) = (if GE ≠ 0 then (zeroR, 0, GE) else if RC ≠ 0 then (zeroR, 0, RC) else ([Q, T, g0, g1, g2, g3, g4, g5, g6, g7], N, 0))) := Lib.hid (by rw [HRLx2.out, if_neg (show ¬ ((0 : Int) ≠ 0) by simp)])
  clear HRLx2
  go_wp2_with fail
  refine (HGT.out w3).mono ?_
  rintro e w4 ⟨rfl, hb4⟩
  obtain ⟨x4, hx4⟩ : ∃ x, w4.heap.size = x := ⟨_, rfl⟩
  have K4 := (K3.out.below hb4 K3.out.lt)
  have N4 := (N3.out.below hb4 N3.out.lt)
  have KB4 := (KB3.out.trans (hb4.mono (by omega)))
  have L4 : b + 2 ≤ x4 := by have := hb4.size; omega
  have k5 := K4.alloc (.cells #[.int .i64 g0, .int .i64 g1, .int .i64 g2, .int .i64 g3, .int .i64 g4, .int .i64 g5, .int .i64 g6, .int .i64 g7] 25)
  have n5 := N4.alloc (.cells #[.int .i64 g0, .int .i64 g1, .int .i64 g2, .int .i64 g3, .int .i64 g4, .int .i64 g5, .int .i64 g6, .int .i64 g7] 25)
  have b5 := KB4.alloc (by omega) (.cells #[.int .i64 g0, .int .i64 g1, .int .i64 g2, .int .i64 g3, .int .i64 g4, .int .i64 g5, .int .i64 g6, .int .i64 g7] 25)
  have v5 := Blk.new w4 #[.int .i64 g0, .int .i64 g1, .int .i64 g2, .int .i64 g3, .int .i64 g4, .int .i64 g5, .int .i64 g6, .int .i64 g7] 25
  have z5 : (w4.alloc (.cells #[.int .i64 g0, .int .i64 g1, .int .i64 g2, .int .i64 g3, .int .i64 g4, .int .i64 g5, .int .i64 g6, .int .i64 g7] 25)).heap.size = x4 + 1 := by simp [hx4]
  rw [hx4] at v5
  go_upto_region 12 with fail
  obtain ⟨w6, hw6⟩ : ∃ w6, w4.alloc (.cells #[.int .i64 g0, .int .i64 g1, .int .i64 g2, .int .i64 g3, .int .i64 g4, .int .i64 g5, .int .i64 g6, .int .i64 g7] 25) = w6 := ⟨_, rfl⟩
  rw [hw6] at k5 n5 b5 v5 z5 ⊢
  try rw [hx4]
  have K6 := Lib.hid k5
  have N6 := Lib.hid n5
  have KB6 := Lib.hid b5
  have V6 := Lib.hid v5
  have Z6 := Lib.hid z5
  have L6 : b + 3 ≤ w6.heap.size := by omega
  clear hb4 K3 N3 KB3 HGT L3 K4 N4 KB4 k5 n5 b5 v5 z5 hx4 hw6
  by_cases e3 : GE = 0
  rotate_left
  · have hne : (GE == 0) = false := by rw [beq_eq_false_iff_ne]; exact e3
    have HRL9 : Hid ((O1, O2, O3) = (zeroR, 0, GE)) := Lib.hid (by rw [HRLx3.out, if_pos e3])
    clear HRLx3
    go_wp2_with (first
      | (with_reducible refine ev_load rfl 27 (.tmp 5) rfl (b + 1) rfl 27 (cellsI zeroR) _ N6.out hu rfl (info_record zeroR rfl) ?_)
      | (with_reducible refine ev_store rfl 27 (.tmp 2) (.tmp 62) rfl b (cellsI zeroR) rfl rfl 27 _ K6.out (by kernel_rfl) rfl (cellsI_one _) ?_; intro w9 hb9 hc9 hz9))
    refine bodyPost_ret (res_ctt rfl _ b 27 (cellsI zeroR) _ rfl hb9 hu rfl (info_record zeroR rfl)) rfl ⟨by have h := HRL9.out; injection h with h1 h2; injection h2 with h2 h3; rw [h1, h2, h3]; rfl, ?_⟩
    exact Chg.belowOf KB6.out hc9 (fun k hk => by omega) (by have := KB6.out.size; omega)
  subst e3
  have HRLx4 : Hid ((O1, O2, O3) = (if RC ≠ 0 then (zeroR, 0, RC) else ([Q, T, g0, g1, g2, g3, g4, g5, g6, g7], N, 0))) := Lib.hid (by rw [HRLx3.out, if_neg (show ¬ ((0 : Int) ≠ 0) by simp)])
  clear HRLx3
  go_upto_region 15 with (with_reducible refine ev_load rfl 25 (.tmp 15) rfl x4 rfl 25 #[.int .i64 g0, .int .i64 g1, .int .i64 g2, .int .i64 g3, .int .i64 g4, .int .i64 g5, .int .i64 g6, .int .i64 g7] _ V6.out hue rfl (by kernel_rfl) ?_)
  obtain ⟨w7, hw7⟩ : ∃ w7, w6.alloc (.cells #[.int .i64 Q, .int .i64 T, .int .i64 g0, .int .i64 g1, .int .i64 g2, .int .i64 g3, .int .i64 g4, .int .i64 g5, .int .i64 g6, .int .i64 g7] 27) = w7 := ⟨_, rfl⟩
  have k7 := K6.out.alloc (.cells #[.int .i64 Q, .int .i64 T, .int .i64 g0, .int .i64 g1, .int .i64 g2, .int .i64 g3, .int .i64 g4, .int .i64 g5, .int .i64 g6, .int .i64 g7] 27)
  have n7 := N6.out.alloc (.cells #[.int .i64 Q, .int .i64 T, .int .i64 g0, .int .i64 g1, .int .i64 g2, .int .i64 g3, .int .i64 g4, .int .i64 g5, .int .i64 g6, .int .i64 g7] 27)
  have b7 := KB6.out.alloc (by omega) (.cells #[.int .i64 Q, .int .i64 T, .int .i64 g0, .int .i64 g1, .int .i64 g2, .int .i64 g3, .int .i64 g4, .int .i64 g5, .int .i64 g6, .int .i64 g7] 27)
  have v7 := Blk.new w6 #[.int .i64 Q, .int .i64 T, .int .i64 g0, .int .i64 g1, .int .i64 g2, .int .i64 g3, .int .i64 g4, .int .i64 g5, .int .i64 g6, .int .i64 g7] 27
  have l7 : w6.heap.size < (w6.alloc (.cells #[.int .i64 Q, .int .i64 T, .int .i64 g0, .int .i64 g1, .int .i64 g2, .int .i64 g3, .int .i64 g4, .int .i64 g5, .int .i64 g6, .int .i64 g7] 27)).heap.size := by simp
  rw [hw7] at k7 n7 b7 v7 l7 ⊢
  obtain ⟨x6, hx6⟩ : ∃ x, w6.heap.size = x := ⟨_, rfl⟩
  rw [hx6] at v7 l7 L6
  try rw [hx6]
  have V7 := Lib.hid v7
  go_wp2_with (with_reducible refine ev_load rfl 27 (.tmp 17) rfl x6 rfl 27 #[.int .i64 Q, .int .i64 T, .int .i64 g0, .int .i64 g1, .int .i64 g2, .int .i64 g3, .int .i64 g4, .int .i64 g5, .int .i64 g6, .int .i64 g7] _ V7.out hu rfl (by kernel_rfl) ?_)
  refine (HC.out w7).mono ?_
  rintro e w8 ⟨rfl, hb8⟩
  have K7 := Lib.hid (k7.below hb8 k7.lt)
  have N7 := Lib.hid (n7.below hb8 n7.lt)
  have V8 := Lib.hid (v7.below hb8 v7.lt)
  have KB7 := Lib.hid (b7.trans (hb8.mono (by omega)))
  have L8 : b + 2 ≤ w8.heap.size := by have := hb8.size; omega
  clear hb8 k7 n7 b7 v7 l7 V7 hw7 hx6 K6 N6 KB6 V6 HC
  by_cases e4 : RC = 0
  rotate_left
  · have hne : (RC == 0) = false := by rw [beq_eq_false_iff_ne]; exact e4
    have HRL9 : Hid ((O1, O2, O3) = (zeroR, 0, RC)) := Lib.hid (by rw [HRLx4.out, if_pos e4])
    clear HRLx4
    have h1 := HONE.out (by simp) e4
    subst h1
    go_wp2_with (first
      | (with_reducible refine ev_load rfl 27 (.tmp 5) rfl (b + 1) rfl 27 (cellsI zeroR) _ N7.out hu rfl (info_record zeroR rfl) ?_)
      | (with_reducible refine ev_store rfl 27 (.tmp 2) (.tmp 71) rfl b (cellsI zeroR) rfl rfl 27 _ K7.out (by kernel_rfl) rfl (cellsI_one _) ?_; intro w9 hb9 hc9 hz9))
    refine bodyPost_ret (res_ctt rfl _ b 27 (cellsI zeroR) _ rfl hb9 hu rfl (info_record zeroR rfl)) rfl ⟨by have h := HRL9.out; injection h with h1 h2; injection h2 with h2 h3; rw [h1, h2, h3]; rfl, ?_⟩
    exact Chg.belowOf KB7.out hc9 (fun k hk => by omega) (by have := KB7.out.size; omega)
  subst e4
  have HRLx5 : Hid ((O1, O2, O3) = (([Q, T, g0, g1, g2, g3, g4, g5, g6, g7], N, 0))) := Lib.hid (by rw [HRLx4.out, if_neg (show ¬ ((0 : Int) ≠ 0) by simp)])
  clear HRLx4
  have V9 : Hid (Blk w8 x6 (cellsI [Q, T, g0, g1, g2, g3, g4, g5, g6, g7]) 27) := Lib.hid (by rw [A2E.out]; exact V8.out)
  clear V8
  go_wp2_with (first
    | (with_reducible refine ev_load rfl 27 (.tmp 17) rfl x6 rfl 27 (cellsI [Q, T, g0, g1, g2, g3, g4, g5, g6, g7]) _ V9.out hu rfl (info_record _ rfl) ?_)
    | (with_reducible refine ev_store rfl 27 (.tmp 2) (.tmp 72) rfl b (cellsI [Q, T, g0, g1, g2, g3, g4, g5, g6, g7]) rfl rfl 27 _ K7.out (info_record _ rfl) rfl (cellsI_one _) ?_; intro w9 hb9 hc9 hz9))
  refine bodyPost_ret (res_ctt rfl _ b 27 (cellsI [Q, T, g0, g1, g2, g3, g4, g5, g6, g7]) _ rfl hb9 hu rfl (info_record _ rfl)) rfl ⟨by have h := HRLx5.out; injection h with h1 h2; injection h2 with h2 h3; rw [h1, h2, h3]; rfl, ?_⟩
  exact Chg.belowOf KB7.out hc9 (fun k hk => by omega) (by have := KB7.out.size; omega)
end Go.Proofs.YtokghlmffkboiaaGreat
