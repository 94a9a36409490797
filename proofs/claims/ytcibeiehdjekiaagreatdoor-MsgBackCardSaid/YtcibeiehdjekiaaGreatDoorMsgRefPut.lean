/-
  A message's bytes (the reference of reeve's layer 35): the walk.
-/
import Derived.Test.YtcibeiehdjekiaaGreatDoorMsgRefCheck
import Derived.Test.YtcibeiehdjekiaaGreatDoorMsgPut
import Derived.Test.YtcibeiehdjekiaaGreatDoorPutAll
namespace Go.Proofs.YtcibeiehdjekiaaGreatDoor
open Go.RowKit
set_option linter.unusedVariables false
set_option linter.unusedSimpArgs false

theorem mnums_at (l : List Int) (i o : Nat) (h : (offsM (fld l 0))[i]? = some o) : ((numsM l).map (Value.int .i64))[i]? = some (.int .i64 (fld l o)) := by
  unfold numsM
  rw [List.getElem?_map, List.getElem?_map, h]
  rfl
theorem putPartM_at (l : List Int) (i : Nat) : putPartM l (i + 2) = Oct.fixB (fld l 0).toNat 1 ++ varAny (fld l 1) ++ varAny (fld l 2) ++ ((offsM (fld l 0)).take i).flatMap (fun o => varAny (fld l o)) := by
  unfold putPartM allM
  simp
theorem mput_step (l : List Int) (i o : Nat) (h : (offsM (fld l 0))[i]? = some o) : putPartM l (i + 1 + 2) = putPartM l (i + 2) ++ varAny (fld l o) := putPartM_succ l (i + 2) o (by unfold allM; simpa using h)
theorem fixM_size (k : Nat) : (str (Oct.fixB k 1)).size = 1 := by rw [str_size, Oct.fixB_length]
set_option maxRecDepth 100000 in
set_option maxHeartbeats 3200000 in
theorem ref35_put (l : List Int) (hl : l.length = 12) (hw : wfI l) (w : World) :
    Calls Tryz.prog 8 #[.agg (cellsI l)] w fun e w' => e = .returned (.tuple #[.string (putM l).1, .int .i64 (putM l).2]) ∧ Below w.heap.size w w' := by
  have hu := Tryz.underlying25
  have hi := info_msg l hl
  have HCK := Lib.hid (ref35_check l hl)
  have HNUM := Lib.hid (ref35_numbers l hl)
  obtain ⟨PS, hPS⟩ : ∃ p, putM l = p := ⟨_, rfl⟩
  obtain ⟨CK, hCK⟩ : ∃ c, checkM l = c := ⟨_, rfl⟩
  rw [hPS]
  rw [hCK] at HCK
  have HPS := Lib.hid hPS
  have HK := Lib.hid hCK
  have HLL := Lib.hid hl
  clear hPS hCK
  obtain ⟨C, hC⟩ : ∃ C, cellsI l = C := ⟨_, rfl⟩
  rw [hC] at HCK HNUM hi ⊢
  have HCE := Lib.hid hC
  clear hC
  obtain ⟨g, hg⟩ : ∃ g, w.heap.size = g := ⟨_, rfl⟩
  have HG := Lib.hid hg
  have HB0 : Hid (Blk (w.alloc (.cells C 25)) g C 25) := Lib.hid (by rw [← hg]; exact Blk.new w _ _)
  rw [hg]
  clear hg
  go_enter Tryz.func8, Tryz.ntmps8
  go_upto_region 1 with fail
  try rw [HG.out]
  go_wp2_with (with_reducible refine ev_load rfl 25 (.tmp 1) rfl g rfl 25 C _ HB0.out hu rfl hi ?_)
  refine (HCK.out _).mono ?_
  rintro e w1 ⟨rfl, hb1⟩
  have X0 := Lib.hid (HB0.out.below hb1 HB0.out.lt)
  have HL1 : Hid (Below g w w1) := Lib.hid (by rw [← HG.out]; exact ((Below.refl w.heap.size w).alloc (Nat.le_refl _) _).trans (hb1.mono (by simp)))
  have hgs : g ≤ w1.heap.size := by have := X0.out.lt; omega
  clear hb1 HB0
  by_cases h0 : CK = 0
  · subst h0
    have hk := checkM_kind HK.out
    obtain ⟨kn, hkn⟩ : ∃ kn : Nat, fld l 0 = kn := ⟨(fld l 0).toNat, by omega⟩
    have hkb : (1 : Int) ≤ (kn : Int) ∧ (kn : Int) ≤ 8 := by omega
    obtain ⟨hk1, hk8⟩ := hkb
    have FX := Lib.hid (fun w => ref02_fixed kn 1 (by omega) (by decide) (by decide) w)
    have hv1 := varAny_length (fld l 1) (wfI_fld hw 1).2
    have hv2 := varAny_length (fld l 2) (wfI_fld hw 2).2
    have V1 := Lib.hid (ref02_var_any (fld l 1) (wfI_fld hw 1).2)
    have V2 := Lib.hid (ref02_var_any (fld l 2) (wfI_fld hw 2).2)
    have hSS : str (putPartM l 2) = str (Oct.fixB kn 1) ++ str (varAny (fld l 1)) ++ str (varAny (fld l 2)) := by
      have := putPartM_at l 0
      rw [this, hkn]
      simp [str_append]
    have hsf := fixM_size kn
    obtain ⟨SF, hSF⟩ : ∃ s, str (Oct.fixB kn 1) = s := ⟨_, rfl⟩
    obtain ⟨S1, hS1⟩ : ∃ s, str (varAny (fld l 1)) = s := ⟨_, rfl⟩
    obtain ⟨S2, hS2⟩ : ∃ s, str (varAny (fld l 2)) = s := ⟨_, rfl⟩
    have hz1 : S1.size ≤ 9 := by rw [← hS1, str_size]; exact hv1
    have hz2 : S2.size ≤ 9 := by rw [← hS2, str_size]; exact hv2
    rw [hSF] at FX hSS hsf
    rw [hS1] at V1 hSS
    rw [hS2] at V2 hSS
    have HSS := Lib.hid hSS
    have HKN := Lib.hid hkn
    obtain ⟨a0, a1, a2, a3, a4, a5, a6, a7, a8, a9, a10, a11, hl12⟩ := twelve_of hl
    have hf0 : fld l 0 = a0 := by rw [hl12]; rfl
    have hf1 : fld l 1 = a1 := by rw [hl12]; rfl
    have hf2 : fld l 2 = a2 := by rw [hl12]; rfl
    have hck : C = #[.int .i64 (kn : Int), .int .i64 a1, .int .i64 a2, .int .i64 a3, .int .i64 a4, .int .i64 a5, .int .i64 a6, .int .i64 a7, .int .i64 a8, .int .i64 a9, .int .i64 a10, .int .i64 a11] := by rw [← HCE.out, hl12, ← hkn, hf0]; rfl
    have HB1 : Hid (Blk w1 g #[.int .i64 (kn : Int), .int .i64 a1, .int .i64 a2, .int .i64 a3, .int .i64 a4, .int .i64 a5, .int .i64 a6, .int .i64 a7, .int .i64 a8, .int .i64 a9, .int .i64 a10, .int .i64 a11] 25) := Lib.hid (by have := X0.out; rw [hck] at this; exact this)
    rw [hf1] at V1
    rw [hf2] at V2
    have HCK2 := Lib.hid hck
    have hadd1 : SF.size + S1.size ≤ 9223372036854775807 := by omega
    have hadd2 : (SF ++ S1).size + S2.size ≤ 9223372036854775807 := by rw [ByteArray.size_append]; omega
    have hcv : IntKind.u64.wrap (kn : Int) = (kn : Int) := by
      show (kn : Int) % 18446744073709551616 = kn
      omega
    have hadd3 : SF.size + S1.size + S2.size ≤ 9223372036854775807 := by omega
    clear hk hkn hsf hv1 hv2 hSS hSF hS1 hS2 hf0 hf1 hf2 hck hl12
    go_upto_region 4 with fail
    refine wp_region_held_drew (S := (fun w' => Blk w' g #[.int .i64 (kn : Int), .int .i64 a1, .int .i64 a2, .int .i64 a3, .int .i64 a4, .int .i64 a5, .int .i64 a6, .int .i64 a7, .int .i64 a8, .int .i64 a9, .int .i64 a10, .int .i64 a11] 25)) (by kernel_rfl) HB1.out (fun hHeld => ?_)
    refine wpAnyH_take (i := 0) (oi := ({ dst := some 13, op := Op.fieldAddr 25 (Operand.tmp 1) 0, type := 0, pos := "ref.go:132", after := #[], guard := none })) (v := (.pointer (some ⟨g, 0, none⟩))) rfl (by kernel_rfl) (by kernel_rfl) (by kernel_rfl) (fun _ _ _ h => h) (Or.inl ⟨by rfl, ?_⟩) (by assumption) ?_
    · (intro w hSw; have s0 := hSw.cell (i := 0) rfl; have s1 := hSw.cell (i := 1) rfl; have s2 := hSw.cell (i := 2) rfl; go_simp)
    try simp only [Act.put, List.setIfInBounds_toArray, List.set_cons_zero, List.set_cons_succ]
    refine wpAnyH_take (i := 1) (oi := ({ dst := some 14, op := Op.load 3 (Operand.tmp 13), type := 3, pos := "ref.go:132", after := #[{ on := 0, ground := Ground.data }], guard := none })) (v := (.int .i64 (kn : Int))) rfl (by kernel_rfl) (by kernel_rfl) (by kernel_rfl) (fun _ _ _ h => h) (Or.inl ⟨by rfl, ?_⟩) (by assumption) ?_
    · (intro w hSw; have s0 := hSw.cell (i := 0) rfl; have s1 := hSw.cell (i := 1) rfl; have s2 := hSw.cell (i := 2) rfl; go_simp)
    try simp only [Act.put, List.setIfInBounds_toArray, List.set_cons_zero, List.set_cons_succ]
    refine wpAnyH_take (i := 2) (oi := ({ dst := some 15, op := Op.convert 3 50 (Operand.tmp 14), type := 50, pos := "ref.go:132", after := #[{ on := 1, ground := Ground.data }], guard := none })) (v := (.int .u64 (kn : Int))) rfl (by kernel_rfl) (by kernel_rfl) (by kernel_rfl) (fun _ _ _ h => h) (Or.inl ⟨by rfl, ?_⟩) (by assumption) ?_
    · (intro w hSw; have s0 := hSw.cell (i := 0) rfl; have s1 := hSw.cell (i := 1) rfl; have s2 := hSw.cell (i := 2) rfl; go_simp)
    try simp only [Act.put, List.setIfInBounds_toArray, List.set_cons_zero, List.set_cons_succ]
    refine wpAnyH_take (i := 4) (oi := ({ dst := some 17, op := Op.fieldAddr 25 (Operand.tmp 1) 1, type := 0, pos := "ref.go:132", after := #[], guard := none })) (v := (.pointer (some ⟨g, 1, none⟩))) rfl (by kernel_rfl) (by kernel_rfl) (by kernel_rfl) (fun _ _ _ h => h) (Or.inl ⟨by rfl, ?_⟩) (by assumption) ?_
    · (intro w hSw; have s0 := hSw.cell (i := 0) rfl; have s1 := hSw.cell (i := 1) rfl; have s2 := hSw.cell (i := 2) rfl; go_simp)
    try simp only [Act.put, List.setIfInBounds_toArray, List.set_cons_zero, List.set_cons_succ]
    refine wpAnyH_take (i := 5) (oi := ({ dst := some 18, op := Op.load 3 (Operand.tmp 17), type := 3, pos := "ref.go:132", after := #[{ on := 4, ground := Ground.data }], guard := none })) (v := (.int .i64 a1)) rfl (by kernel_rfl) (by kernel_rfl) (by kernel_rfl) (fun _ _ _ h => h) (Or.inl ⟨by rfl, ?_⟩) (by assumption) ?_
    · (intro w hSw; have s0 := hSw.cell (i := 0) rfl; have s1 := hSw.cell (i := 1) rfl; have s2 := hSw.cell (i := 2) rfl; go_simp)
    try simp only [Act.put, List.setIfInBounds_toArray, List.set_cons_zero, List.set_cons_succ]
    refine wpAnyH_take (i := 8) (oi := ({ dst := some 21, op := Op.fieldAddr 25 (Operand.tmp 1) 2, type := 0, pos := "ref.go:132", after := #[], guard := none })) (v := (.pointer (some ⟨g, 2, none⟩))) rfl (by kernel_rfl) (by kernel_rfl) (by kernel_rfl) (fun _ _ _ h => h) (Or.inl ⟨by rfl, ?_⟩) (by assumption) ?_
    · (intro w hSw; have s0 := hSw.cell (i := 0) rfl; have s1 := hSw.cell (i := 1) rfl; have s2 := hSw.cell (i := 2) rfl; go_simp)
    try simp only [Act.put, List.setIfInBounds_toArray, List.set_cons_zero, List.set_cons_succ]
    refine wpAnyH_take (i := 9) (oi := ({ dst := some 22, op := Op.load 3 (Operand.tmp 21), type := 3, pos := "ref.go:132", after := #[{ on := 8, ground := Ground.data }], guard := none })) (v := (.int .i64 a2)) rfl (by kernel_rfl) (by kernel_rfl) (by kernel_rfl) (fun _ _ _ h => h) (Or.inl ⟨by rfl, ?_⟩) (by assumption) ?_
    · (intro w hSw; have s0 := hSw.cell (i := 0) rfl; have s1 := hSw.cell (i := 1) rfl; have s2 := hSw.cell (i := 2) rfl; go_simp)
    try simp only [Act.put, List.setIfInBounds_toArray, List.set_cons_zero, List.set_cons_succ]
    refine wpAnyH_ready (rs := [3]) (by kernel_rfl) (by simp) (AllReadyH.cons (o := ({ dst := some 16, op := Op.call { callee := Callee.value (Operand.func 27), args := #[Operand.tmp 15, Operand.const (Value.int IntKind.i64 1)], argTypes := #[50, 3] }, type := 9, pos := "ref.go:132", after := #[{ on := 2, ground := Ground.data }], guard := none })) rfl (fun K hK => ?_) AllReadyH.nil)
    go_simp
    refine (FX.out _).mono ?_
    rintro e w2 ⟨rfl, hb2⟩
    have hb2 : Below w1.heap.size w1 w2 := ⟨hb2.os, hb2.tape, hb2.output, hb2.size, hb2.block⟩
    have hB2 := HB1.out.below hb2 HB1.out.lt
    go_wp2_with fail
    clear hHeld
    refine hK.out _ _ hB2 (fun hHeld => ?_)
    clear hK K
    try simp only [Act.put, List.setIfInBounds_toArray, List.set_cons_zero, List.set_cons_succ]
    refine wpAnyH_ready (rs := [6]) (by kernel_rfl) (by simp) (AllReadyH.cons (o := ({ dst := some 19, op := Op.call { callee := Callee.value (Operand.func 28), args := #[Operand.tmp 18], argTypes := #[3] }, type := 9, pos := "ref.go:132", after := #[{ on := 5, ground := Ground.data }, { on := 3, ground := Ground.chain }], guard := none })) rfl (fun K hK => ?_) AllReadyH.nil)
    go_simp
    refine (V1.out _).mono ?_
    rintro e w3 ⟨rfl, hb3⟩
    have hb3 : Below w2.heap.size w2 w3 := ⟨hb3.os, hb3.tape, hb3.output, hb3.size, hb3.block⟩
    have hB3 := hB2.below hb3 hB2.lt
    go_wp2_with fail
    clear hHeld
    refine hK.out _ _ hB3 (fun hHeld => ?_)
    clear hK K
    try simp only [Act.put, List.setIfInBounds_toArray, List.set_cons_zero, List.set_cons_succ]
    refine wpAnyH_take (i := 7) (oi := ({ dst := some 20, op := Op.binOp BinOp.add 9 (Operand.tmp 16) (Operand.tmp 19) 9, type := 9, pos := "ref.go:132", after := #[{ on := 3, ground := Ground.data }, { on := 6, ground := Ground.data }], guard := none })) (v := (.string (SF ++ S1))) rfl (by kernel_rfl) (by kernel_rfl) (by kernel_rfl) (fun _ _ _ h => h) (Or.inl ⟨by rfl, ?_⟩) (by assumption) ?_
    · (intro w hSw; have s0 := hSw.cell (i := 0) rfl; have s1 := hSw.cell (i := 1) rfl; have s2 := hSw.cell (i := 2) rfl; go_simp)
    try simp only [Act.put, List.setIfInBounds_toArray, List.set_cons_zero, List.set_cons_succ]
    refine wpAnyH_ready (rs := [10]) (by kernel_rfl) (by simp) (AllReadyH.cons (o := ({ dst := some 23, op := Op.call { callee := Callee.value (Operand.func 28), args := #[Operand.tmp 22], argTypes := #[3] }, type := 9, pos := "ref.go:132", after := #[{ on := 9, ground := Ground.data }, { on := 6, ground := Ground.chain }], guard := none })) rfl (fun K hK => ?_) AllReadyH.nil)
    go_simp
    refine (V2.out _).mono ?_
    rintro e w4 ⟨rfl, hb4⟩
    have hb4 : Below w3.heap.size w3 w4 := ⟨hb4.os, hb4.tape, hb4.output, hb4.size, hb4.block⟩
    have hB4 := hB3.below hb4 hB3.lt
    go_wp2_with fail
    clear hHeld
    refine hK.out _ _ hB4 (fun hHeld => ?_)
    clear hK K
    try simp only [Act.put, List.setIfInBounds_toArray, List.set_cons_zero, List.set_cons_succ]
    refine wpAnyH_take (i := 11) (oi := ({ dst := some 24, op := Op.binOp BinOp.add 9 (Operand.tmp 20) (Operand.tmp 23) 9, type := 9, pos := "ref.go:132", after := #[{ on := 7, ground := Ground.data }, { on := 10, ground := Ground.data }], guard := none })) (v := (.string (SF ++ S1 ++ S2))) rfl (by kernel_rfl) (by kernel_rfl) (by kernel_rfl) (fun _ _ _ h => h) (Or.inl ⟨by rfl, ?_⟩) (by assumption) ?_
    · (intro w hSw; have s0 := hSw.cell (i := 0) rfl; have s1 := hSw.cell (i := 1) rfl; have s2 := hSw.cell (i := 2) rfl; go_simp)
    try simp only [Act.put, List.setIfInBounds_toArray, List.set_cons_zero, List.set_cons_succ]
    refine wpAnyH_take (i := 12) (oi := ({ dst := some 5, op := Op.assign (Operand.tmp 24), type := 9, pos := "ref.go:132", after := #[{ on := 11, ground := Ground.data }, { on := 10, ground := Ground.chain }, { on := 0, ground := Ground.phase }, { on := 1, ground := Ground.phase }, { on := 2, ground := Ground.phase }, { on := 3, ground := Ground.phase }, { on := 4, ground := Ground.phase }, { on := 5, ground := Ground.phase }, { on := 6, ground := Ground.phase }, { on := 7, ground := Ground.phase }, { on := 8, ground := Ground.phase }, { on := 9, ground := Ground.phase }, { on := 10, ground := Ground.phase }, { on := 11, ground := Ground.phase }], guard := none })) (v := (.string (SF ++ S1 ++ S2))) rfl (by kernel_rfl) (by kernel_rfl) (by kernel_rfl) (fun _ _ _ h => h) (Or.inl ⟨by rfl, ?_⟩) (by assumption) ?_
    · (intro w hSw; have s0 := hSw.cell (i := 0) rfl; have s1 := hSw.cell (i := 1) rfl; have s2 := hSw.cell (i := 2) rfl; go_simp)
    try simp only [Act.put, List.setIfInBounds_toArray, List.set_cons_zero, List.set_cons_succ]
    refine wpAnyH_done (by kernel_rfl) ?_ _
    clear hHeld
    have X4 : Hid (Blk w4 g C 25) := Lib.hid (by rw [HCK2.out]; exact hB4)
    have L4 : Hid (Below g w w4) := Lib.hid (HL1.out.trans ((hb2.trans ((hb3.trans (hb4.mono hb3.size)).mono hb2.size)).mono hgs))
    have hgs4 : g ≤ w4.heap.size := by have := X4.out.lt; omega
    rw [← HSS.out]
    clear hb2 hb3 hb4 hB2 hB3 hB4 HB1 X0 HL1 FX V1 V2 hadd1 hadd2 hadd3 hz1 hz2 HSS
    go_wp2_with (with_reducible refine ev_load rfl 25 (.tmp 1) rfl g rfl 25 C _ X4.out hu rfl hi ?_)
    refine (HNUM.out _).mono ?_
    rintro e w3 ⟨v, rfl, ho, hb3⟩
    have R3 := Lib.hid ho.row
    have L3 : Hid (Below g w w3) := Lib.hid (L4.out.trans (hb3.mono hgs4))
    have hgs3 : g ≤ w3.heap.size := by have := hb3.size; omega
    obtain ⟨p, cap, rfl⟩ := ho.len
    clear hb3 ho L4 X4
    obtain ⟨n, hn⟩ : ∃ n, (numsM l).length = n := ⟨_, rfl⟩
    have hno : (offsM (fld l 0)).length = n := by rw [← hn]; unfold numsM; rw [List.length_map]
    have hn5 := offsM_length (fld l 0)
    rw [hno] at hn5
    rw [hn]
    have HNL := Lib.hid hn
    have HNO := Lib.hid hno
    clear hn hno
    go_wp2_with fail
    go_loopg [5, 7] n (fun gg s5 s7 wr => ∃ i : Nat, i ≤ n ∧ gg = n - i ∧ s7 = .int .i64 i ∧ s5 = .string (str (putPartM l (i + 2))) ∧ Hid (Below w3.heap.size w3 wr))
    case atStart => exact ⟨0, by omega, rfl, rfl, rfl, Lib.hid (Below.refl _ _)⟩
    case round =>
      obtain ⟨i, hi', hg, rfl, rfl, HW⟩ := hrel
      have hg := hg.symm
      subst hg
      by_cases hlt : i < n
      · obtain ⟨o, ho⟩ : ∃ o, (offsM (fld l 0))[i]? = some o := ⟨_, List.getElem?_eq_getElem (by rw [HNO.out]; exact hlt)⟩
        have HP := Lib.hid (mput_step l i o ho)
        have hlb := putPartM_le l (fun i => (wfI_fld hw i).2) (i + 2)
        obtain ⟨b, off, cp, e1, _, hbl, k0⟩ := R3.out.at (j := i) (by rw [List.length_map, HNL.out]; exact hlt)
        rw [List.length_map, HNL.out] at e1
        cases e1
        have k0 := k0.trans ((List.getElem?_eq_getElem _).symm.trans (mnums_at l i o ho))
        have k1 := keepB HW.out k0 hbl
        have hvl := varAny_length (fld l o) (wfI_fld hw o).2
        have HV := Lib.hid (ref02_var_any (fld l o) (wfI_fld hw o).2)
        clear k0 ho
        generalize fld l o = x at k1 HP HV hvl
        have hiI : (i : Int) < (n : Int) := by omega
        have hi0 : (0 : Int) ≤ (i : Int) := by omega
        have hz1 : (str (putPartM l (i + 2))).size ≤ 64 := by rw [str_size]; exact hlb
        have hz2 : (str (varAny x)).size ≤ 9 := by rw [str_size]; exact hvl
        have HPS2 : Hid (str (putPartM l (i + 1 + 2)) = str (putPartM l (i + 2)) ++ str (varAny x)) := Lib.hid (by rw [HP.out, str_append])
        obtain ⟨SA, hSA⟩ : ∃ s, str (putPartM l (i + 2)) = s := ⟨_, rfl⟩
        obtain ⟨SB, hSB⟩ : ∃ s, str (varAny x) = s := ⟨_, rfl⟩
        rw [hSA] at hz1 HPS2 ⊢
        rw [hSB] at hz2 HPS2 HV
        clear hSA hSB
        have hadd : SA.size + SB.size ≤ 9223372036854775807 := by omega
        go_wp2_with fail
        refine (HV.out _).mono ?_
        rintro e w5 ⟨rfl, hb5⟩
        have HW5 := Lib.hid (HW.out.trans (hb5.mono HW.out.size))
        clear hb5 k1
        go_wp2_with fail
        go_roundg (n - (i + 1))
        case measure => omega
        case rel => exact ⟨i + 1, by omega, rfl, by go_num, by rw [HPS2.out, ← str_add2], HW5⟩
      · obtain rfl : i = n := by omega
        have SE := ref04_seal_any (str (putPartM l (i + 2))) (by rw [str_size]; have := putPartM_le l (fun i => (wfI_fld hw i).2) (i + 2); unfold maxLen; omega)
        have HF : sealF (str (putPartM l (i + 2))) = PS := by
          rw [← HPS.out]
          unfold putM
          rw [if_pos HK.out, ← putPartM_all]
          have : (allM (fld l 0)).length = i + 2 := by unfold allM; simp; exact HNO.out
          rw [this]
        rw [HF] at SE
        have SE2 := Lib.hid SE
        have HL5 : Hid (Below g w wr) := Lib.hid (L3.out.trans (HW.out.mono hgs3))
        have hgr : g ≤ wr.heap.size := by have := HW.out.size; omega
        clear SE HF
        go_wp2_with fail
        refine (SE2.out _).mono ?_
        rintro e w6 ⟨rfl, hb6⟩
        have HL6 : Hid (Below g w w6) := Lib.hid (HL5.out.trans (hb6.mono hgr))
        clear hb6
        go_wp2_with fail
        go_ret2
        exact ⟨rfl, HL6.out⟩
  · have hne : (CK == 0) = false := by rw [beq_eq_false_iff_ne]; exact h0
    have HP2 : Hid (PS = (str [], CK)) := Lib.hid (by rw [← HPS.out]; unfold putM; rw [if_neg (by rw [HK.out]; exact h0), HK.out])
    clear h0
    go_wp2_with fail
    go_ret2
    exact ⟨by rw [HP2.out]; rfl, HL1.out⟩
end Go.Proofs.YtcibeiehdjekiaaGreatDoor
