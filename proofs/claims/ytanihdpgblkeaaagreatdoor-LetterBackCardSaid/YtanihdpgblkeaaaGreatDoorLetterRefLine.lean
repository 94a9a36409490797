/-
  Messages as texts (reeve's layer 36): the reference's Line.
-/
import Derived.Test.YtanihdpgblkeaaaGreatDoorLetterRef
import Derived.Test.YtanihdpgblkeaaaGreatDoorRowAll
import Derived.Test.YtanihdpgblkeaaaGreatDoorMsgRefName
import Derived.Test.YtanihdpgblkeaaaGreatDoorMsgRefCheck
namespace Go.Proofs.YtanihdpgblkeaaaGreatDoor
open Go.RowKit
set_option linter.unusedVariables false
set_option linter.unusedSimpArgs false

theorem ref36_wordsK (k : Int) (hk : 1 ≤ k ∧ k ≤ 8) (w : World) : Calls Tryz.prog 37 #[] w fun e w' => ∃ b, e = .returned (.slice (some ⟨b, 0, none⟩) 9 9) ∧ b < w'.heap.size ∧ w'.cell? ⟨b, k.toNat, none⟩ = some (.string (strL (kindWM k))) ∧ Below w.heap.size w w' := by
  go_enter Tryz.func37, Tryz.ntmps37
  go_wp2_with fail
  go_ret
  refine ⟨w.heap.size, rfl, by simp, ?_, (Below.refl _ _).alloc (Nat.le_refl _) _⟩
  have h := Blk.new w (wordsKM.map (Value.string ∘ strL)).toArray 9
  refine h.cell ?_
  rcases kind_eightI hk with rfl | rfl | rfl | rfl | rfl | rfl | rfl | rfl <;> rfl
set_option maxRecDepth 100000 in
set_option maxHeartbeats 6400000 in
theorem ref36_line (l : List Int) (hl : l.length = 12) (hw : wfI l) (w : World) :
    Calls Tryz.prog 10 #[.agg (cellsI l)] w fun e w' => e = .returned (.tuple #[.string (strL (lineM l).1), .int .i64 (lineM l).2]) ∧ Below w.heap.size w w' := by
  have HCK := Lib.hid (fun w => ref35_check l hl w)
  have hk := fun h => checkM_kind (l := l) h
  have hline : checkM l = 0 → lineM l = (rowL (headM l) (namesWM (fld l 0)) (numsM l), 0) := fun h => by unfold lineM; rw [if_pos h]
  have hline2 : checkM l ≠ 0 → lineM l = ([], checkM l) := fun h => by unfold lineM; rw [if_neg h]
  have hni := numsM_in hw
  have hhl := headM_len l
  have hnl := numsM_len l
  have hn5 := (namesWM_len (fld l 0)).1
  have hnm := fun w => ref35_numbers l hl w
  obtain ⟨LR, hLR⟩ : ∃ R, lineM l = R := ⟨_, rfl⟩
  rw [hLR] at hline hline2 ⊢
  obtain ⟨LR1, LR2⟩ := LR
  obtain ⟨CK, hCK⟩ : ∃ c, checkM l = c := ⟨_, rfl⟩
  rw [hCK] at HCK hk hline hline2
  obtain ⟨a0, a1, a2, a3, a4, a5, a6, a7, a8, a9, a10, a11, hl8⟩ := twelve_of hl
  have hk0 : fld l 0 = a0 := by rw [hl8]; rfl
  have hcell : cellsI l = #[.int .i64 a0, .int .i64 a1, .int .i64 a2, .int .i64 a3, .int .i64 a4, .int .i64 a5, .int .i64 a6, .int .i64 a7, .int .i64 a8, .int .i64 a9, .int .i64 a10, .int .i64 a11] := by rw [hl8]; rfl
  rw [hk0] at hk hline hnl hn5
  have hhead : headM l = Lib.join [kindWM a0, nameM a1, nameM a2] [32] := by rw [hl8]; rfl
  rw [hhead] at hline hhl
  rw [hcell] at HCK hnm ⊢
  obtain ⟨NS, hNS⟩ : ∃ N, numsM l = N := ⟨_, rfl⟩
  rw [hNS] at hline hni hnl
  simp only [hNS] at hnm
  obtain ⟨n0, hn0⟩ : ∃ n, w.heap.size = n := ⟨_, rfl⟩
  obtain ⟨W, hW⟩ : ∃ W, w.alloc (.cells #[.int .i64 a0, .int .i64 a1, .int .i64 a2, .int .i64 a3, .int .i64 a4, .int .i64 a5, .int .i64 a6, .int .i64 a7, .int .i64 a8, .int .i64 a9, .int .i64 a10, .int .i64 a11] 25) = W := ⟨_, rfl⟩
  have hb0 : Below n0 w W := by rw [← hW, ← hn0]; exact (Below.refl _ _).alloc (Nat.le_refl _) _
  have K : Blk W n0 #[.int .i64 a0, .int .i64 a1, .int .i64 a2, .int .i64 a3, .int .i64 a4, .int .i64 a5, .int .i64 a6, .int .i64 a7, .int .i64 a8, .int .i64 a9, .int .i64 a10, .int .i64 a11] 25 := by rw [← hW, ← hn0]; exact Blk.new w _ _
  have HK := Lib.hid K
  have HB := Lib.hid hb0
  have HW := Lib.hid hW
  have HN0 := Lib.hid hn0
  have HLI := Lib.hid hline
  have HLI2 := Lib.hid hline2
  have HNI := Lib.hid hni
  have HNL := Lib.hid hnl
  have HN5 := Lib.hid hn5
  have HKK := Lib.hid hk
  have HHL := Lib.hid hhl
  have HNM := Lib.hid hnm
  rw [hn0]
  clear hW hb0 K hline hline2 hni hnl hn5 hk hLR hCK hl8 hk0 hcell hNS hn0 hw hl hnm hhl hhead
  go_enter Tryz.func10, Tryz.ntmps10
  go_upto_region 1 with fail
  rw [HW.out]
  try rw [HN0.out]
  clear HW
  have c0 := HK.out.cell (i := 0) rfl
  have c1 := HK.out.cell (i := 1) rfl
  have c2 := HK.out.cell (i := 2) rfl
  have c3 := HK.out.cell (i := 3) rfl
  have c4 := HK.out.cell (i := 4) rfl
  have c5 := HK.out.cell (i := 5) rfl
  have c6 := HK.out.cell (i := 6) rfl
  have c7 := HK.out.cell (i := 7) rfl
  have c8 := HK.out.cell (i := 8) rfl
  have c9 := HK.out.cell (i := 9) rfl
  have c10 := HK.out.cell (i := 10) rfl
  have c11 := HK.out.cell (i := 11) rfl
  go_wp2_with fail
  refine (HCK.out _).mono ?_
  rintro e w1 ⟨rfl, hb1⟩
  clear c0 c1 c2 c3 c4 c5 c6 c7 c8 c9 c10 c11 HCK
  have HK1 := Lib.hid (HK.out.below hb1 HK.out.lt)
  have HB1 := Lib.hid (HB.out.trans (hb1.mono (by have := HB.out.size; have := HN0.out; have := HK.out.lt; omega)))
  clear hb1 HK HB
  by_cases hz0 : CK = 0
  · have hR := HLI.out hz0
    obtain rfl : LR1 = _ := (Prod.mk.inj hR).1
    obtain rfl : LR2 = 0 := (Prod.mk.inj hR).2
    have hk17 := HKK.out hz0
    subst hz0
    obtain ⟨q, rfl⟩ : ∃ q : Nat, a0 = (q : Int) := ⟨a0.toNat, by omega⟩
    have WD0 := fun w => ref36_wordsK (q : Int) hk17 w
    have ND := Lib.hid (fun w => ref36_names (q : Int) hk17 w)
    have MD := Lib.hid (fun w => HNM.out w)
    have N10 := fun w => ref35_name a1 w
    have N20 := fun w => ref35_name a2 w
    have RL0 := fun (wx : World) (vn vi : Value) (h1 : RowS wx vn ((namesWM (q : Int)).map strL)) (h2 : RowN wx vi NS) => ref07_line (Lib.join [kindWM (q : Int), nameM a1, nameM a2] [32]) vn vi (namesWM (q : Int)) NS wx h1 h2 HHL.out (by have := HN5.out; omega) (namesWM_len q).2 (by have := HNL.out; have := HN5.out; omega) HNI.out
    have hzk := kindWM_len (q : Int)
    have hz1 := nameM_len a1
    have hz2 := nameM_len a2
    have hhd : strL (Lib.join [kindWM (q : Int), nameM a1, nameM a2] [32]) = strL (kindWM (q : Int)) ++ ⟨#[32]⟩ ++ strL (nameM a1) ++ ⟨#[32]⟩ ++ strL (nameM a2) := by
      rw [Lib.join_cons]
      have e : kindWM (q : Int) ++ Lib.joinTail [32] [nameM a1, nameM a2] = kindWM (q : Int) ++ [32] ++ nameM a1 ++ [32] ++ nameM a2 := by simp [Lib.joinTail]
      rw [e, strL_app, strL_app, strL_app, strL_app]; rfl
    rw [show ((q : Int)).toNat = q by omega] at WD0
    rw [← strL_size] at hzk hz1 hz2
    generalize strL (kindWM (q : Int)) = KW at *
    generalize strL (nameM a1) = NF at *
    generalize strL (nameM a2) = NT at *
    rw [hhd] at RL0
    obtain ⟨HS, hHS⟩ : ∃ S, KW ++ ⟨#[32]⟩ ++ NF ++ ⟨#[32]⟩ ++ NT = S := ⟨_, rfl⟩
    rw [hHS] at RL0
    obtain ⟨LS, hLS⟩ : ∃ S, strL (rowL (Lib.join [kindWM (q : Int), nameM a1, nameM a2] [32]) (namesWM (q : Int)) NS) = S := ⟨_, rfl⟩
    rw [hLS] at RL0
    have WD := Lib.hid WD0
    have N1 := Lib.hid N10
    have N2 := Lib.hid N20
    have RL := Lib.hid RL0
    have HHD := Lib.hid hHS
    have HLS := Lib.hid hLS
    have q0 : (0 : Int) ≤ (q : Int) := by omega
    have q8 : (q : Int) < 9 := by omega
    have c0 := HK1.out.cell (i := 0) rfl
    have c1 := HK1.out.cell (i := 1) rfl
    have c2 := HK1.out.cell (i := 2) rfl
    have c3 := HK1.out.cell (i := 3) rfl
    have c4 := HK1.out.cell (i := 4) rfl
    have c5 := HK1.out.cell (i := 5) rfl
    have c6 := HK1.out.cell (i := 6) rfl
    have c7 := HK1.out.cell (i := 7) rfl
    have c8 := HK1.out.cell (i := 8) rfl
    have c9 := HK1.out.cell (i := 9) rfl
    have c10 := HK1.out.cell (i := 10) rfl
    have c11 := HK1.out.cell (i := 11) rfl
    have al := HK1.out.lt
    have hw0 : Below w1.heap.size w1 w1.drew := ⟨rfl, rfl, rfl, Nat.le_refl _, fun _ _ => rfl⟩
    clear hR HLI HLI2 HKK HNM HK1 hk17 WD0 N10 N20 RL0 hHS hLS hhd
    go_upto_region 4 with fail
    refine wp_region_held_drew (S := (fun w' => w'.cell? ⟨n0, 0, none⟩ = some (.int .i64 q) ∧ w'.cell? ⟨n0, 1, none⟩ = some (.int .i64 a1) ∧ w'.cell? ⟨n0, 2, none⟩ = some (.int .i64 a2) ∧ w'.cell? ⟨n0, 3, none⟩ = some (.int .i64 a3) ∧ w'.cell? ⟨n0, 4, none⟩ = some (.int .i64 a4) ∧ w'.cell? ⟨n0, 5, none⟩ = some (.int .i64 a5) ∧ w'.cell? ⟨n0, 6, none⟩ = some (.int .i64 a6) ∧ w'.cell? ⟨n0, 7, none⟩ = some (.int .i64 a7) ∧ w'.cell? ⟨n0, 8, none⟩ = some (.int .i64 a8) ∧ w'.cell? ⟨n0, 9, none⟩ = some (.int .i64 a9) ∧ w'.cell? ⟨n0, 10, none⟩ = some (.int .i64 a10) ∧ w'.cell? ⟨n0, 11, none⟩ = some (.int .i64 a11))) (by kernel_rfl) ⟨c0, c1, c2, c3, c4, c5, c6, c7, c8, c9, c10, c11⟩ (fun hHeld => ?_)
    refine wpAnyH_take (i := 1) (oi := ({ dst := some 11, op := Op.fieldAddr 25 (Operand.tmp 1) 0, type := 0, pos := "ref.go:48", after := #[], guard := none })) (v := (.pointer (some ⟨n0, 0, none⟩))) rfl (by kernel_rfl) (by kernel_rfl) (by kernel_rfl) (fun _ _ _ h => h) (Or.inl ⟨by rfl, ?_⟩) (by assumption) ?_
    · (intro w hSw; (try dsimp only at hSw); go_simp; try omega)
    try simp only [Act.put, List.setIfInBounds_toArray, List.set_cons_zero, List.set_cons_succ]
    refine wpAnyH_take (i := 2) (oi := ({ dst := some 12, op := Op.load 3 (Operand.tmp 11), type := 3, pos := "ref.go:48", after := #[{ on := 1, ground := Ground.data }], guard := none })) (v := (.int .i64 q)) rfl (by kernel_rfl) (by kernel_rfl) (by kernel_rfl) (fun _ _ _ h => h) (Or.inl ⟨by rfl, ?_⟩) (by assumption) ?_
    · (intro w hSw; (try dsimp only at hSw); go_simp; try omega)
    try simp only [Act.put, List.setIfInBounds_toArray, List.set_cons_zero, List.set_cons_succ]
    refine wpAnyH_take (i := 6) (oi := ({ dst := some 16, op := Op.fieldAddr 25 (Operand.tmp 1) 1, type := 0, pos := "ref.go:48", after := #[], guard := none })) (v := (.pointer (some ⟨n0, 1, none⟩))) rfl (by kernel_rfl) (by kernel_rfl) (by kernel_rfl) (fun _ _ _ h => h) (Or.inl ⟨by rfl, ?_⟩) (by assumption) ?_
    · (intro w hSw; (try dsimp only at hSw); go_simp; try omega)
    try simp only [Act.put, List.setIfInBounds_toArray, List.set_cons_zero, List.set_cons_succ]
    refine wpAnyH_take (i := 7) (oi := ({ dst := some 17, op := Op.load 3 (Operand.tmp 16), type := 3, pos := "ref.go:48", after := #[{ on := 6, ground := Ground.data }], guard := none })) (v := (.int .i64 a1)) rfl (by kernel_rfl) (by kernel_rfl) (by kernel_rfl) (fun _ _ _ h => h) (Or.inl ⟨by rfl, ?_⟩) (by assumption) ?_
    · (intro w hSw; (try dsimp only at hSw); go_simp; try omega)
    try simp only [Act.put, List.setIfInBounds_toArray, List.set_cons_zero, List.set_cons_succ]
    refine wpAnyH_take (i := 11) (oi := ({ dst := some 21, op := Op.fieldAddr 25 (Operand.tmp 1) 2, type := 0, pos := "ref.go:48", after := #[], guard := none })) (v := (.pointer (some ⟨n0, 2, none⟩))) rfl (by kernel_rfl) (by kernel_rfl) (by kernel_rfl) (fun _ _ _ h => h) (Or.inl ⟨by rfl, ?_⟩) (by assumption) ?_
    · (intro w hSw; (try dsimp only at hSw); go_simp; try omega)
    try simp only [Act.put, List.setIfInBounds_toArray, List.set_cons_zero, List.set_cons_succ]
    refine wpAnyH_take (i := 12) (oi := ({ dst := some 22, op := Op.load 3 (Operand.tmp 21), type := 3, pos := "ref.go:48", after := #[{ on := 11, ground := Ground.data }], guard := none })) (v := (.int .i64 a2)) rfl (by kernel_rfl) (by kernel_rfl) (by kernel_rfl) (fun _ _ _ h => h) (Or.inl ⟨by rfl, ?_⟩) (by assumption) ?_
    · (intro w hSw; (try dsimp only at hSw); go_simp; try omega)
    try simp only [Act.put, List.setIfInBounds_toArray, List.set_cons_zero, List.set_cons_succ]
    refine wpAnyH_take (i := 15) (oi := ({ dst := some 25, op := Op.fieldAddr 25 (Operand.tmp 1) 0, type := 0, pos := "ref.go:48", after := #[], guard := none })) (v := (.pointer (some ⟨n0, 0, none⟩))) rfl (by kernel_rfl) (by kernel_rfl) (by kernel_rfl) (fun _ _ _ h => h) (Or.inl ⟨by rfl, ?_⟩) (by assumption) ?_
    · (intro w hSw; (try dsimp only at hSw); go_simp; try omega)
    try simp only [Act.put, List.setIfInBounds_toArray, List.set_cons_zero, List.set_cons_succ]
    refine wpAnyH_take (i := 16) (oi := ({ dst := some 26, op := Op.load 3 (Operand.tmp 25), type := 3, pos := "ref.go:48", after := #[{ on := 15, ground := Ground.data }], guard := none })) (v := (.int .i64 q)) rfl (by kernel_rfl) (by kernel_rfl) (by kernel_rfl) (fun _ _ _ h => h) (Or.inl ⟨by rfl, ?_⟩) (by assumption) ?_
    · (intro w hSw; (try dsimp only at hSw); go_simp; try omega)
    try simp only [Act.put, List.setIfInBounds_toArray, List.set_cons_zero, List.set_cons_succ]
    refine wpAnyH_take (i := 18) (oi := ({ dst := some 28, op := Op.load 25 (Operand.tmp 1), type := 25, pos := "ref.go:48", after := #[], guard := none })) (v := (.agg #[.int .i64 q, .int .i64 a1, .int .i64 a2, .int .i64 a3, .int .i64 a4, .int .i64 a5, .int .i64 a6, .int .i64 a7, .int .i64 a8, .int .i64 a9, .int .i64 a10, .int .i64 a11])) rfl (by kernel_rfl) (by kernel_rfl) (by kernel_rfl) (fun _ _ _ h => h) (Or.inl ⟨by rfl, ?_⟩) (by assumption) ?_
    · (intro w hSw; (try dsimp only at hSw); go_simp; try omega)
    try simp only [Act.put, List.setIfInBounds_toArray, List.set_cons_zero, List.set_cons_succ]
    refine wpAnyH_ready (rs := [0]) (by kernel_rfl) (by simp) (AllReadyH.cons (o := ({ dst := some 10, op := Op.call { callee := Callee.value (Operand.func 37), args := #[], argTypes := #[] }, type := 67, pos := "ref.go:48", after := #[], guard := none })) rfl (fun K hK => ?_) AllReadyH.nil)
    go_simp
    refine (WD.out _).mono ?_
    rintro e wc ⟨bw, rfl, hwl, hwc, hbq⟩
    replace hw0 := hw0.trans (Below.mono (by exact ⟨hbq.os, hbq.tape, hbq.output, hbq.size, hbq.block⟩) hw0.size)
    clear hbq
    go_wp2_with fail
    clear hHeld
    refine hK.out _ _ ⟨keepB hw0 c0 al, keepB hw0 c1 al, keepB hw0 c2 al, keepB hw0 c3 al, keepB hw0 c4 al, keepB hw0 c5 al, keepB hw0 c6 al, keepB hw0 c7 al, keepB hw0 c8 al, keepB hw0 c9 al, keepB hw0 c10 al, keepB hw0 c11 al⟩ (fun hHeld => ?_)
    clear hK K
    try simp only [Act.put, List.setIfInBounds_toArray, List.set_cons_zero, List.set_cons_succ]
    refine wpAnyH_take (i := 3) (oi := ({ dst := some 13, op := Op.indexAddr 67 (Operand.tmp 10) (Operand.tmp 12), type := 0, pos := "ref.go:48", after := #[{ on := 0, ground := Ground.data }, { on := 2, ground := Ground.data }], guard := none })) (v := (.pointer (some ⟨bw, q, none⟩))) rfl (by kernel_rfl) (by kernel_rfl) (by kernel_rfl) (fun _ _ _ h => h) (Or.inl ⟨by rfl, ?_⟩) (by assumption) ?_
    · (intro w hSw; (try dsimp only at hSw); go_simp; try omega)
    try simp only [Act.put, List.setIfInBounds_toArray, List.set_cons_zero, List.set_cons_succ]
    refine wpAnyH_ready (rs := [4, 8]) (by kernel_rfl) (by simp) (AllReadyH.cons (o := ({ dst := some 14, op := Op.load 9 (Operand.tmp 13), type := 9, pos := "ref.go:48", after := #[{ on := 3, ground := Ground.data }], guard := none })) rfl (fun K hK => ?_) (AllReadyH.cons (o := ({ dst := some 18, op := Op.call { callee := Callee.value (Operand.func 38), args := #[Operand.tmp 17], argTypes := #[3] }, type := 9, pos := "ref.go:48", after := #[{ on := 7, ground := Ground.data }, { on := 0, ground := Ground.chain }], guard := none })) rfl (fun K hK => ?_) AllReadyH.nil))
    · go_simp
      clear hHeld
      refine hK.out _ _ ⟨keepB hw0 c0 al, keepB hw0 c1 al, keepB hw0 c2 al, keepB hw0 c3 al, keepB hw0 c4 al, keepB hw0 c5 al, keepB hw0 c6 al, keepB hw0 c7 al, keepB hw0 c8 al, keepB hw0 c9 al, keepB hw0 c10 al, keepB hw0 c11 al⟩ (fun hHeld => ?_)
      clear hK K
      try simp only [Act.put, List.setIfInBounds_toArray, List.set_cons_zero, List.set_cons_succ]
      refine wpAnyH_take (i := 5) (oi := ({ dst := some 15, op := Op.binOp BinOp.add 9 (Operand.tmp 14) (Operand.const (Value.string { data := #[32] })) 9, type := 9, pos := "ref.go:48", after := #[{ on := 4, ground := Ground.data }], guard := none })) (v := (.string (KW ++ ⟨#[32]⟩))) rfl (by kernel_rfl) (by kernel_rfl) (by kernel_rfl) (fun _ _ _ h => h) (Or.inl ⟨by rfl, ?_⟩) (by assumption) ?_
      · (intro w hSw; (try dsimp only at hSw); go_simp; try omega)
      try simp only [Act.put, List.setIfInBounds_toArray, List.set_cons_zero, List.set_cons_succ]
      refine wpAnyH_ready (rs := [8]) (by kernel_rfl) (by simp) (AllReadyH.cons (o := ({ dst := some 18, op := Op.call { callee := Callee.value (Operand.func 38), args := #[Operand.tmp 17], argTypes := #[3] }, type := 9, pos := "ref.go:48", after := #[{ on := 7, ground := Ground.data }, { on := 0, ground := Ground.chain }], guard := none })) rfl (fun K hK => ?_) AllReadyH.nil)
      go_simp
      refine (N1.out _).mono ?_
      rintro e wc ⟨rfl, rfl⟩
      go_wp2_with fail
      clear hHeld
      refine hK.out _ _ ⟨keepB hw0 c0 al, keepB hw0 c1 al, keepB hw0 c2 al, keepB hw0 c3 al, keepB hw0 c4 al, keepB hw0 c5 al, keepB hw0 c6 al, keepB hw0 c7 al, keepB hw0 c8 al, keepB hw0 c9 al, keepB hw0 c10 al, keepB hw0 c11 al⟩ (fun hHeld => ?_)
      clear hK K
      try simp only [Act.put, List.setIfInBounds_toArray, List.set_cons_zero, List.set_cons_succ]
      refine wpAnyH_take (i := 9) (oi := ({ dst := some 19, op := Op.binOp BinOp.add 9 (Operand.tmp 15) (Operand.tmp 18) 9, type := 9, pos := "ref.go:48", after := #[{ on := 5, ground := Ground.data }, { on := 8, ground := Ground.data }], guard := none })) (v := (.string (KW ++ ⟨#[32]⟩ ++ NF))) rfl (by kernel_rfl) (by kernel_rfl) (by kernel_rfl) (fun _ _ _ h => h) (Or.inl ⟨by rfl, ?_⟩) (by assumption) ?_
      · (intro w hSw; (try dsimp only at hSw); go_simp; try omega)
      try simp only [Act.put, List.setIfInBounds_toArray, List.set_cons_zero, List.set_cons_succ]
      refine wpAnyH_take (i := 10) (oi := ({ dst := some 20, op := Op.binOp BinOp.add 9 (Operand.tmp 19) (Operand.const (Value.string { data := #[32] })) 9, type := 9, pos := "ref.go:48", after := #[{ on := 9, ground := Ground.data }], guard := none })) (v := (.string (KW ++ ⟨#[32]⟩ ++ NF ++ ⟨#[32]⟩))) rfl (by kernel_rfl) (by kernel_rfl) (by kernel_rfl) (fun _ _ _ h => h) (Or.inl ⟨by rfl, ?_⟩) (by assumption) ?_
      · (intro w hSw; (try dsimp only at hSw); go_simp; try omega)
      try simp only [Act.put, List.setIfInBounds_toArray, List.set_cons_zero, List.set_cons_succ]
      refine wpAnyH_ready (rs := [13]) (by kernel_rfl) (by simp) (AllReadyH.cons (o := ({ dst := some 23, op := Op.call { callee := Callee.value (Operand.func 38), args := #[Operand.tmp 22], argTypes := #[3] }, type := 9, pos := "ref.go:48", after := #[{ on := 12, ground := Ground.data }, { on := 8, ground := Ground.chain }], guard := none })) rfl (fun K hK => ?_) AllReadyH.nil)
      go_simp
      refine (N2.out _).mono ?_
      rintro e wc ⟨rfl, rfl⟩
      go_wp2_with fail
      clear hHeld
      refine hK.out _ _ ⟨keepB hw0 c0 al, keepB hw0 c1 al, keepB hw0 c2 al, keepB hw0 c3 al, keepB hw0 c4 al, keepB hw0 c5 al, keepB hw0 c6 al, keepB hw0 c7 al, keepB hw0 c8 al, keepB hw0 c9 al, keepB hw0 c10 al, keepB hw0 c11 al⟩ (fun hHeld => ?_)
      clear hK K
      try simp only [Act.put, List.setIfInBounds_toArray, List.set_cons_zero, List.set_cons_succ]
      refine wpAnyH_take (i := 14) (oi := ({ dst := some 24, op := Op.binOp BinOp.add 9 (Operand.tmp 20) (Operand.tmp 23) 9, type := 9, pos := "ref.go:48", after := #[{ on := 10, ground := Ground.data }, { on := 13, ground := Ground.data }], guard := none })) (v := (.string (KW ++ ⟨#[32]⟩ ++ NF ++ ⟨#[32]⟩ ++ NT))) rfl (by kernel_rfl) (by kernel_rfl) (by kernel_rfl) (fun _ _ _ h => h) (Or.inl ⟨by rfl, ?_⟩) (by assumption) ?_
      · (intro w hSw; (try dsimp only at hSw); go_simp; try omega)
      try simp only [Act.put, List.setIfInBounds_toArray, List.set_cons_zero, List.set_cons_succ]
      refine wpAnyH_ready (rs := [17]) (by kernel_rfl) (by simp) (AllReadyH.cons (o := ({ dst := some 27, op := Op.call { callee := Callee.value (Operand.func 39), args := #[Operand.tmp 26], argTypes := #[3] }, type := 67, pos := "ref.go:48", after := #[{ on := 16, ground := Ground.data }, { on := 13, ground := Ground.chain }], guard := none })) rfl (fun K hK => ?_) AllReadyH.nil)
      go_simp
      refine (ND.out _).mono ?_
      rintro e wc ⟨vn, rfl, hvn, hbq⟩
      replace hvn := Lib.hid hvn
      replace hwc := keepB hbq hwc hwl
      replace hwl := Nat.lt_of_lt_of_le hwl hbq.size
      replace hw0 := hw0.trans (Below.mono (by exact ⟨hbq.os, hbq.tape, hbq.output, hbq.size, hbq.block⟩) hw0.size)
      clear hbq
      go_wp2_with fail
      clear hHeld
      refine hK.out _ _ ⟨keepB hw0 c0 al, keepB hw0 c1 al, keepB hw0 c2 al, keepB hw0 c3 al, keepB hw0 c4 al, keepB hw0 c5 al, keepB hw0 c6 al, keepB hw0 c7 al, keepB hw0 c8 al, keepB hw0 c9 al, keepB hw0 c10 al, keepB hw0 c11 al⟩ (fun hHeld => ?_)
      clear hK K
      try simp only [Act.put, List.setIfInBounds_toArray, List.set_cons_zero, List.set_cons_succ]
      refine wpAnyH_ready (rs := [19]) (by kernel_rfl) (by simp) (AllReadyH.cons (o := ({ dst := some 29, op := Op.call { callee := Callee.value (Operand.func 40), args := #[Operand.tmp 28], argTypes := #[25] }, type := 60, pos := "ref.go:48", after := #[{ on := 18, ground := Ground.data }, { on := 17, ground := Ground.chain }], guard := none })) rfl (fun K hK => ?_) AllReadyH.nil)
      go_simp
      refine (MD.out _).mono ?_
      rintro e wc ⟨vi, rfl, hvi, hbq⟩
      replace hvi := Lib.hid (OwnN.row (by exact hvi))
      replace hvn := Lib.hid (hvn.out.below hbq (Nat.le_refl _))
      replace hwc := keepB hbq hwc hwl
      replace hwl := Nat.lt_of_lt_of_le hwl hbq.size
      replace hw0 := hw0.trans (Below.mono (by exact ⟨hbq.os, hbq.tape, hbq.output, hbq.size, hbq.block⟩) hw0.size)
      clear hbq
      go_wp2_with fail
      clear hHeld
      refine hK.out _ _ ⟨keepB hw0 c0 al, keepB hw0 c1 al, keepB hw0 c2 al, keepB hw0 c3 al, keepB hw0 c4 al, keepB hw0 c5 al, keepB hw0 c6 al, keepB hw0 c7 al, keepB hw0 c8 al, keepB hw0 c9 al, keepB hw0 c10 al, keepB hw0 c11 al⟩ (fun hHeld => ?_)
      clear hK K
      try simp only [Act.put, List.setIfInBounds_toArray, List.set_cons_zero, List.set_cons_succ]
      refine wpAnyH_ready (rs := [20]) (by kernel_rfl) (by simp) (AllReadyH.cons (o := ({ dst := some 30, op := Op.call { callee := Callee.value (Operand.func 36), args := #[Operand.tmp 24, Operand.tmp 27, Operand.tmp 29], argTypes := #[9, 67, 60] }, type := 9, pos := "ref.go:48", after := #[{ on := 14, ground := Ground.data }, { on := 17, ground := Ground.data }, { on := 19, ground := Ground.data }, { on := 19, ground := Ground.chain }], guard := none })) rfl (fun K hK => ?_) AllReadyH.nil)
      go_simp
      rw [HHD.out]
      refine (RL.out _ _ _ hvn.out hvi.out).mono ?_
      rintro e wc ⟨rfl, hbq⟩
      replace hw0 := hw0.trans (Below.mono (by exact ⟨hbq.os, hbq.tape, hbq.output, hbq.size, hbq.block⟩) hw0.size)
      clear hbq
      go_wp2_with fail
      clear hHeld
      refine hK.out _ _ ⟨keepB hw0 c0 al, keepB hw0 c1 al, keepB hw0 c2 al, keepB hw0 c3 al, keepB hw0 c4 al, keepB hw0 c5 al, keepB hw0 c6 al, keepB hw0 c7 al, keepB hw0 c8 al, keepB hw0 c9 al, keepB hw0 c10 al, keepB hw0 c11 al⟩ (fun hHeld => ?_)
      clear hK K
      try simp only [Act.put, List.setIfInBounds_toArray, List.set_cons_zero, List.set_cons_succ]
      refine wpAnyH_take (i := 21) (oi := ({ dst := some 2, op := Op.assign (Operand.tmp 30), type := 9, pos := "ref.go:48", after := #[{ on := 20, ground := Ground.data }, { on := 20, ground := Ground.chain }, { on := 0, ground := Ground.phase }, { on := 1, ground := Ground.phase }, { on := 2, ground := Ground.phase }, { on := 3, ground := Ground.phase }, { on := 4, ground := Ground.phase }, { on := 5, ground := Ground.phase }, { on := 6, ground := Ground.phase }, { on := 7, ground := Ground.phase }, { on := 8, ground := Ground.phase }, { on := 9, ground := Ground.phase }, { on := 10, ground := Ground.phase }, { on := 11, ground := Ground.phase }, { on := 12, ground := Ground.phase }, { on := 13, ground := Ground.phase }, { on := 14, ground := Ground.phase }, { on := 15, ground := Ground.phase }, { on := 16, ground := Ground.phase }, { on := 17, ground := Ground.phase }, { on := 18, ground := Ground.phase }, { on := 19, ground := Ground.phase }, { on := 20, ground := Ground.phase }], guard := none })) (v := (.string LS)) rfl (by kernel_rfl) (by kernel_rfl) (by kernel_rfl) (fun _ _ _ h => h) (Or.inl ⟨by rfl, ?_⟩) (by assumption) ?_
      · (intro w hSw; (try dsimp only at hSw); go_simp; try omega)
      try simp only [Act.put, List.setIfInBounds_toArray, List.set_cons_zero, List.set_cons_succ]
      refine wpAnyH_take (i := 22) (oi := ({ dst := some 3, op := Op.assign (Operand.const (Value.int IntKind.i64 0)), type := 27, pos := "ref.go:48", after := #[{ on := 21, ground := Ground.chain }, { on := 0, ground := Ground.phase }, { on := 1, ground := Ground.phase }, { on := 2, ground := Ground.phase }, { on := 3, ground := Ground.phase }, { on := 4, ground := Ground.phase }, { on := 5, ground := Ground.phase }, { on := 6, ground := Ground.phase }, { on := 7, ground := Ground.phase }, { on := 8, ground := Ground.phase }, { on := 9, ground := Ground.phase }, { on := 10, ground := Ground.phase }, { on := 11, ground := Ground.phase }, { on := 12, ground := Ground.phase }, { on := 13, ground := Ground.phase }, { on := 14, ground := Ground.phase }, { on := 15, ground := Ground.phase }, { on := 16, ground := Ground.phase }, { on := 17, ground := Ground.phase }, { on := 18, ground := Ground.phase }, { on := 19, ground := Ground.phase }, { on := 20, ground := Ground.phase }, { on := 21, ground := Ground.phase }], guard := none })) (v := (.int .i64 0)) rfl (by kernel_rfl) (by kernel_rfl) (by kernel_rfl) (fun _ _ _ h => h) (Or.inl ⟨by rfl, ?_⟩) (by assumption) ?_
      · (intro w hSw; (try dsimp only at hSw); go_simp; try omega)
      try simp only [Act.put, List.setIfInBounds_toArray, List.set_cons_zero, List.set_cons_succ]
      refine wpAnyH_done (by kernel_rfl) ?_ _
      clear hHeld
      go_wp2_with fail
      go_ret2
      exact ⟨by rw [HLS.out]; rfl, HB1.out.trans (hw0.mono (by have := HB1.out.size; have := HN0.out; omega))⟩
    · go_simp
      refine (N1.out _).mono ?_
      rintro e wc ⟨rfl, rfl⟩
      go_wp2_with fail
      clear hHeld
      refine hK.out _ _ ⟨keepB hw0 c0 al, keepB hw0 c1 al, keepB hw0 c2 al, keepB hw0 c3 al, keepB hw0 c4 al, keepB hw0 c5 al, keepB hw0 c6 al, keepB hw0 c7 al, keepB hw0 c8 al, keepB hw0 c9 al, keepB hw0 c10 al, keepB hw0 c11 al⟩ (fun hHeld => ?_)
      clear hK K
      try simp only [Act.put, List.setIfInBounds_toArray, List.set_cons_zero, List.set_cons_succ]
      refine wpAnyH_ready (rs := [4, 13]) (by kernel_rfl) (by simp) (AllReadyH.cons (o := ({ dst := some 14, op := Op.load 9 (Operand.tmp 13), type := 9, pos := "ref.go:48", after := #[{ on := 3, ground := Ground.data }], guard := none })) rfl (fun K hK => ?_) (AllReadyH.cons (o := ({ dst := some 23, op := Op.call { callee := Callee.value (Operand.func 38), args := #[Operand.tmp 22], argTypes := #[3] }, type := 9, pos := "ref.go:48", after := #[{ on := 12, ground := Ground.data }, { on := 8, ground := Ground.chain }], guard := none })) rfl (fun K hK => ?_) AllReadyH.nil))
      · go_simp
        clear hHeld
        refine hK.out _ _ ⟨keepB hw0 c0 al, keepB hw0 c1 al, keepB hw0 c2 al, keepB hw0 c3 al, keepB hw0 c4 al, keepB hw0 c5 al, keepB hw0 c6 al, keepB hw0 c7 al, keepB hw0 c8 al, keepB hw0 c9 al, keepB hw0 c10 al, keepB hw0 c11 al⟩ (fun hHeld => ?_)
        clear hK K
        try simp only [Act.put, List.setIfInBounds_toArray, List.set_cons_zero, List.set_cons_succ]
        refine wpAnyH_take (i := 5) (oi := ({ dst := some 15, op := Op.binOp BinOp.add 9 (Operand.tmp 14) (Operand.const (Value.string { data := #[32] })) 9, type := 9, pos := "ref.go:48", after := #[{ on := 4, ground := Ground.data }], guard := none })) (v := (.string (KW ++ ⟨#[32]⟩))) rfl (by kernel_rfl) (by kernel_rfl) (by kernel_rfl) (fun _ _ _ h => h) (Or.inl ⟨by rfl, ?_⟩) (by assumption) ?_
        · (intro w hSw; (try dsimp only at hSw); go_simp; try omega)
        try simp only [Act.put, List.setIfInBounds_toArray, List.set_cons_zero, List.set_cons_succ]
        refine wpAnyH_take (i := 9) (oi := ({ dst := some 19, op := Op.binOp BinOp.add 9 (Operand.tmp 15) (Operand.tmp 18) 9, type := 9, pos := "ref.go:48", after := #[{ on := 5, ground := Ground.data }, { on := 8, ground := Ground.data }], guard := none })) (v := (.string (KW ++ ⟨#[32]⟩ ++ NF))) rfl (by kernel_rfl) (by kernel_rfl) (by kernel_rfl) (fun _ _ _ h => h) (Or.inl ⟨by rfl, ?_⟩) (by assumption) ?_
        · (intro w hSw; (try dsimp only at hSw); go_simp; try omega)
        try simp only [Act.put, List.setIfInBounds_toArray, List.set_cons_zero, List.set_cons_succ]
        refine wpAnyH_take (i := 10) (oi := ({ dst := some 20, op := Op.binOp BinOp.add 9 (Operand.tmp 19) (Operand.const (Value.string { data := #[32] })) 9, type := 9, pos := "ref.go:48", after := #[{ on := 9, ground := Ground.data }], guard := none })) (v := (.string (KW ++ ⟨#[32]⟩ ++ NF ++ ⟨#[32]⟩))) rfl (by kernel_rfl) (by kernel_rfl) (by kernel_rfl) (fun _ _ _ h => h) (Or.inl ⟨by rfl, ?_⟩) (by assumption) ?_
        · (intro w hSw; (try dsimp only at hSw); go_simp; try omega)
        try simp only [Act.put, List.setIfInBounds_toArray, List.set_cons_zero, List.set_cons_succ]
        refine wpAnyH_ready (rs := [13]) (by kernel_rfl) (by simp) (AllReadyH.cons (o := ({ dst := some 23, op := Op.call { callee := Callee.value (Operand.func 38), args := #[Operand.tmp 22], argTypes := #[3] }, type := 9, pos := "ref.go:48", after := #[{ on := 12, ground := Ground.data }, { on := 8, ground := Ground.chain }], guard := none })) rfl (fun K hK => ?_) AllReadyH.nil)
        go_simp
        refine (N2.out _).mono ?_
        rintro e wc ⟨rfl, rfl⟩
        go_wp2_with fail
        clear hHeld
        refine hK.out _ _ ⟨keepB hw0 c0 al, keepB hw0 c1 al, keepB hw0 c2 al, keepB hw0 c3 al, keepB hw0 c4 al, keepB hw0 c5 al, keepB hw0 c6 al, keepB hw0 c7 al, keepB hw0 c8 al, keepB hw0 c9 al, keepB hw0 c10 al, keepB hw0 c11 al⟩ (fun hHeld => ?_)
        clear hK K
        try simp only [Act.put, List.setIfInBounds_toArray, List.set_cons_zero, List.set_cons_succ]
        refine wpAnyH_take (i := 14) (oi := ({ dst := some 24, op := Op.binOp BinOp.add 9 (Operand.tmp 20) (Operand.tmp 23) 9, type := 9, pos := "ref.go:48", after := #[{ on := 10, ground := Ground.data }, { on := 13, ground := Ground.data }], guard := none })) (v := (.string (KW ++ ⟨#[32]⟩ ++ NF ++ ⟨#[32]⟩ ++ NT))) rfl (by kernel_rfl) (by kernel_rfl) (by kernel_rfl) (fun _ _ _ h => h) (Or.inl ⟨by rfl, ?_⟩) (by assumption) ?_
        · (intro w hSw; (try dsimp only at hSw); go_simp; try omega)
        try simp only [Act.put, List.setIfInBounds_toArray, List.set_cons_zero, List.set_cons_succ]
        refine wpAnyH_ready (rs := [17]) (by kernel_rfl) (by simp) (AllReadyH.cons (o := ({ dst := some 27, op := Op.call { callee := Callee.value (Operand.func 39), args := #[Operand.tmp 26], argTypes := #[3] }, type := 67, pos := "ref.go:48", after := #[{ on := 16, ground := Ground.data }, { on := 13, ground := Ground.chain }], guard := none })) rfl (fun K hK => ?_) AllReadyH.nil)
        go_simp
        refine (ND.out _).mono ?_
        rintro e wc ⟨vn, rfl, hvn, hbq⟩
        replace hvn := Lib.hid hvn
        replace hwc := keepB hbq hwc hwl
        replace hwl := Nat.lt_of_lt_of_le hwl hbq.size
        replace hw0 := hw0.trans (Below.mono (by exact ⟨hbq.os, hbq.tape, hbq.output, hbq.size, hbq.block⟩) hw0.size)
        clear hbq
        go_wp2_with fail
        clear hHeld
        refine hK.out _ _ ⟨keepB hw0 c0 al, keepB hw0 c1 al, keepB hw0 c2 al, keepB hw0 c3 al, keepB hw0 c4 al, keepB hw0 c5 al, keepB hw0 c6 al, keepB hw0 c7 al, keepB hw0 c8 al, keepB hw0 c9 al, keepB hw0 c10 al, keepB hw0 c11 al⟩ (fun hHeld => ?_)
        clear hK K
        try simp only [Act.put, List.setIfInBounds_toArray, List.set_cons_zero, List.set_cons_succ]
        refine wpAnyH_ready (rs := [19]) (by kernel_rfl) (by simp) (AllReadyH.cons (o := ({ dst := some 29, op := Op.call { callee := Callee.value (Operand.func 40), args := #[Operand.tmp 28], argTypes := #[25] }, type := 60, pos := "ref.go:48", after := #[{ on := 18, ground := Ground.data }, { on := 17, ground := Ground.chain }], guard := none })) rfl (fun K hK => ?_) AllReadyH.nil)
        go_simp
        refine (MD.out _).mono ?_
        rintro e wc ⟨vi, rfl, hvi, hbq⟩
        replace hvi := Lib.hid (OwnN.row (by exact hvi))
        replace hvn := Lib.hid (hvn.out.below hbq (Nat.le_refl _))
        replace hwc := keepB hbq hwc hwl
        replace hwl := Nat.lt_of_lt_of_le hwl hbq.size
        replace hw0 := hw0.trans (Below.mono (by exact ⟨hbq.os, hbq.tape, hbq.output, hbq.size, hbq.block⟩) hw0.size)
        clear hbq
        go_wp2_with fail
        clear hHeld
        refine hK.out _ _ ⟨keepB hw0 c0 al, keepB hw0 c1 al, keepB hw0 c2 al, keepB hw0 c3 al, keepB hw0 c4 al, keepB hw0 c5 al, keepB hw0 c6 al, keepB hw0 c7 al, keepB hw0 c8 al, keepB hw0 c9 al, keepB hw0 c10 al, keepB hw0 c11 al⟩ (fun hHeld => ?_)
        clear hK K
        try simp only [Act.put, List.setIfInBounds_toArray, List.set_cons_zero, List.set_cons_succ]
        refine wpAnyH_ready (rs := [20]) (by kernel_rfl) (by simp) (AllReadyH.cons (o := ({ dst := some 30, op := Op.call { callee := Callee.value (Operand.func 36), args := #[Operand.tmp 24, Operand.tmp 27, Operand.tmp 29], argTypes := #[9, 67, 60] }, type := 9, pos := "ref.go:48", after := #[{ on := 14, ground := Ground.data }, { on := 17, ground := Ground.data }, { on := 19, ground := Ground.data }, { on := 19, ground := Ground.chain }], guard := none })) rfl (fun K hK => ?_) AllReadyH.nil)
        go_simp
        rw [HHD.out]
        refine (RL.out _ _ _ hvn.out hvi.out).mono ?_
        rintro e wc ⟨rfl, hbq⟩
        replace hw0 := hw0.trans (Below.mono (by exact ⟨hbq.os, hbq.tape, hbq.output, hbq.size, hbq.block⟩) hw0.size)
        clear hbq
        go_wp2_with fail
        clear hHeld
        refine hK.out _ _ ⟨keepB hw0 c0 al, keepB hw0 c1 al, keepB hw0 c2 al, keepB hw0 c3 al, keepB hw0 c4 al, keepB hw0 c5 al, keepB hw0 c6 al, keepB hw0 c7 al, keepB hw0 c8 al, keepB hw0 c9 al, keepB hw0 c10 al, keepB hw0 c11 al⟩ (fun hHeld => ?_)
        clear hK K
        try simp only [Act.put, List.setIfInBounds_toArray, List.set_cons_zero, List.set_cons_succ]
        refine wpAnyH_take (i := 21) (oi := ({ dst := some 2, op := Op.assign (Operand.tmp 30), type := 9, pos := "ref.go:48", after := #[{ on := 20, ground := Ground.data }, { on := 20, ground := Ground.chain }, { on := 0, ground := Ground.phase }, { on := 1, ground := Ground.phase }, { on := 2, ground := Ground.phase }, { on := 3, ground := Ground.phase }, { on := 4, ground := Ground.phase }, { on := 5, ground := Ground.phase }, { on := 6, ground := Ground.phase }, { on := 7, ground := Ground.phase }, { on := 8, ground := Ground.phase }, { on := 9, ground := Ground.phase }, { on := 10, ground := Ground.phase }, { on := 11, ground := Ground.phase }, { on := 12, ground := Ground.phase }, { on := 13, ground := Ground.phase }, { on := 14, ground := Ground.phase }, { on := 15, ground := Ground.phase }, { on := 16, ground := Ground.phase }, { on := 17, ground := Ground.phase }, { on := 18, ground := Ground.phase }, { on := 19, ground := Ground.phase }, { on := 20, ground := Ground.phase }], guard := none })) (v := (.string LS)) rfl (by kernel_rfl) (by kernel_rfl) (by kernel_rfl) (fun _ _ _ h => h) (Or.inl ⟨by rfl, ?_⟩) (by assumption) ?_
        · (intro w hSw; (try dsimp only at hSw); go_simp; try omega)
        try simp only [Act.put, List.setIfInBounds_toArray, List.set_cons_zero, List.set_cons_succ]
        refine wpAnyH_take (i := 22) (oi := ({ dst := some 3, op := Op.assign (Operand.const (Value.int IntKind.i64 0)), type := 27, pos := "ref.go:48", after := #[{ on := 21, ground := Ground.chain }, { on := 0, ground := Ground.phase }, { on := 1, ground := Ground.phase }, { on := 2, ground := Ground.phase }, { on := 3, ground := Ground.phase }, { on := 4, ground := Ground.phase }, { on := 5, ground := Ground.phase }, { on := 6, ground := Ground.phase }, { on := 7, ground := Ground.phase }, { on := 8, ground := Ground.phase }, { on := 9, ground := Ground.phase }, { on := 10, ground := Ground.phase }, { on := 11, ground := Ground.phase }, { on := 12, ground := Ground.phase }, { on := 13, ground := Ground.phase }, { on := 14, ground := Ground.phase }, { on := 15, ground := Ground.phase }, { on := 16, ground := Ground.phase }, { on := 17, ground := Ground.phase }, { on := 18, ground := Ground.phase }, { on := 19, ground := Ground.phase }, { on := 20, ground := Ground.phase }, { on := 21, ground := Ground.phase }], guard := none })) (v := (.int .i64 0)) rfl (by kernel_rfl) (by kernel_rfl) (by kernel_rfl) (fun _ _ _ h => h) (Or.inl ⟨by rfl, ?_⟩) (by assumption) ?_
        · (intro w hSw; (try dsimp only at hSw); go_simp; try omega)
        try simp only [Act.put, List.setIfInBounds_toArray, List.set_cons_zero, List.set_cons_succ]
        refine wpAnyH_done (by kernel_rfl) ?_ _
        clear hHeld
        go_wp2_with fail
        go_ret2
        exact ⟨by rw [HLS.out]; rfl, HB1.out.trans (hw0.mono (by have := HB1.out.size; have := HN0.out; omega))⟩
      · go_simp
        refine (N2.out _).mono ?_
        rintro e wc ⟨rfl, rfl⟩
        go_wp2_with fail
        clear hHeld
        refine hK.out _ _ ⟨keepB hw0 c0 al, keepB hw0 c1 al, keepB hw0 c2 al, keepB hw0 c3 al, keepB hw0 c4 al, keepB hw0 c5 al, keepB hw0 c6 al, keepB hw0 c7 al, keepB hw0 c8 al, keepB hw0 c9 al, keepB hw0 c10 al, keepB hw0 c11 al⟩ (fun hHeld => ?_)
        clear hK K
        try simp only [Act.put, List.setIfInBounds_toArray, List.set_cons_zero, List.set_cons_succ]
        refine wpAnyH_ready (rs := [4, 17]) (by kernel_rfl) (by simp) (AllReadyH.cons (o := ({ dst := some 14, op := Op.load 9 (Operand.tmp 13), type := 9, pos := "ref.go:48", after := #[{ on := 3, ground := Ground.data }], guard := none })) rfl (fun K hK => ?_) (AllReadyH.cons (o := ({ dst := some 27, op := Op.call { callee := Callee.value (Operand.func 39), args := #[Operand.tmp 26], argTypes := #[3] }, type := 67, pos := "ref.go:48", after := #[{ on := 16, ground := Ground.data }, { on := 13, ground := Ground.chain }], guard := none })) rfl (fun K hK => ?_) AllReadyH.nil))
        · go_simp
          clear hHeld
          refine hK.out _ _ ⟨keepB hw0 c0 al, keepB hw0 c1 al, keepB hw0 c2 al, keepB hw0 c3 al, keepB hw0 c4 al, keepB hw0 c5 al, keepB hw0 c6 al, keepB hw0 c7 al, keepB hw0 c8 al, keepB hw0 c9 al, keepB hw0 c10 al, keepB hw0 c11 al⟩ (fun hHeld => ?_)
          clear hK K
          try simp only [Act.put, List.setIfInBounds_toArray, List.set_cons_zero, List.set_cons_succ]
          refine wpAnyH_take (i := 5) (oi := ({ dst := some 15, op := Op.binOp BinOp.add 9 (Operand.tmp 14) (Operand.const (Value.string { data := #[32] })) 9, type := 9, pos := "ref.go:48", after := #[{ on := 4, ground := Ground.data }], guard := none })) (v := (.string (KW ++ ⟨#[32]⟩))) rfl (by kernel_rfl) (by kernel_rfl) (by kernel_rfl) (fun _ _ _ h => h) (Or.inl ⟨by rfl, ?_⟩) (by assumption) ?_
          · (intro w hSw; (try dsimp only at hSw); go_simp; try omega)
          try simp only [Act.put, List.setIfInBounds_toArray, List.set_cons_zero, List.set_cons_succ]
          refine wpAnyH_take (i := 9) (oi := ({ dst := some 19, op := Op.binOp BinOp.add 9 (Operand.tmp 15) (Operand.tmp 18) 9, type := 9, pos := "ref.go:48", after := #[{ on := 5, ground := Ground.data }, { on := 8, ground := Ground.data }], guard := none })) (v := (.string (KW ++ ⟨#[32]⟩ ++ NF))) rfl (by kernel_rfl) (by kernel_rfl) (by kernel_rfl) (fun _ _ _ h => h) (Or.inl ⟨by rfl, ?_⟩) (by assumption) ?_
          · (intro w hSw; (try dsimp only at hSw); go_simp; try omega)
          try simp only [Act.put, List.setIfInBounds_toArray, List.set_cons_zero, List.set_cons_succ]
          refine wpAnyH_take (i := 10) (oi := ({ dst := some 20, op := Op.binOp BinOp.add 9 (Operand.tmp 19) (Operand.const (Value.string { data := #[32] })) 9, type := 9, pos := "ref.go:48", after := #[{ on := 9, ground := Ground.data }], guard := none })) (v := (.string (KW ++ ⟨#[32]⟩ ++ NF ++ ⟨#[32]⟩))) rfl (by kernel_rfl) (by kernel_rfl) (by kernel_rfl) (fun _ _ _ h => h) (Or.inl ⟨by rfl, ?_⟩) (by assumption) ?_
          · (intro w hSw; (try dsimp only at hSw); go_simp; try omega)
          try simp only [Act.put, List.setIfInBounds_toArray, List.set_cons_zero, List.set_cons_succ]
          refine wpAnyH_take (i := 14) (oi := ({ dst := some 24, op := Op.binOp BinOp.add 9 (Operand.tmp 20) (Operand.tmp 23) 9, type := 9, pos := "ref.go:48", after := #[{ on := 10, ground := Ground.data }, { on := 13, ground := Ground.data }], guard := none })) (v := (.string (KW ++ ⟨#[32]⟩ ++ NF ++ ⟨#[32]⟩ ++ NT))) rfl (by kernel_rfl) (by kernel_rfl) (by kernel_rfl) (fun _ _ _ h => h) (Or.inl ⟨by rfl, ?_⟩) (by assumption) ?_
          · (intro w hSw; (try dsimp only at hSw); go_simp; try omega)
          try simp only [Act.put, List.setIfInBounds_toArray, List.set_cons_zero, List.set_cons_succ]
          refine wpAnyH_ready (rs := [17]) (by kernel_rfl) (by simp) (AllReadyH.cons (o := ({ dst := some 27, op := Op.call { callee := Callee.value (Operand.func 39), args := #[Operand.tmp 26], argTypes := #[3] }, type := 67, pos := "ref.go:48", after := #[{ on := 16, ground := Ground.data }, { on := 13, ground := Ground.chain }], guard := none })) rfl (fun K hK => ?_) AllReadyH.nil)
          go_simp
          refine (ND.out _).mono ?_
          rintro e wc ⟨vn, rfl, hvn, hbq⟩
          replace hvn := Lib.hid hvn
          replace hwc := keepB hbq hwc hwl
          replace hwl := Nat.lt_of_lt_of_le hwl hbq.size
          replace hw0 := hw0.trans (Below.mono (by exact ⟨hbq.os, hbq.tape, hbq.output, hbq.size, hbq.block⟩) hw0.size)
          clear hbq
          go_wp2_with fail
          clear hHeld
          refine hK.out _ _ ⟨keepB hw0 c0 al, keepB hw0 c1 al, keepB hw0 c2 al, keepB hw0 c3 al, keepB hw0 c4 al, keepB hw0 c5 al, keepB hw0 c6 al, keepB hw0 c7 al, keepB hw0 c8 al, keepB hw0 c9 al, keepB hw0 c10 al, keepB hw0 c11 al⟩ (fun hHeld => ?_)
          clear hK K
          try simp only [Act.put, List.setIfInBounds_toArray, List.set_cons_zero, List.set_cons_succ]
          refine wpAnyH_ready (rs := [19]) (by kernel_rfl) (by simp) (AllReadyH.cons (o := ({ dst := some 29, op := Op.call { callee := Callee.value (Operand.func 40), args := #[Operand.tmp 28], argTypes := #[25] }, type := 60, pos := "ref.go:48", after := #[{ on := 18, ground := Ground.data }, { on := 17, ground := Ground.chain }], guard := none })) rfl (fun K hK => ?_) AllReadyH.nil)
          go_simp
          refine (MD.out _).mono ?_
          rintro e wc ⟨vi, rfl, hvi, hbq⟩
          replace hvi := Lib.hid (OwnN.row (by exact hvi))
          replace hvn := Lib.hid (hvn.out.below hbq (Nat.le_refl _))
          replace hwc := keepB hbq hwc hwl
          replace hwl := Nat.lt_of_lt_of_le hwl hbq.size
          replace hw0 := hw0.trans (Below.mono (by exact ⟨hbq.os, hbq.tape, hbq.output, hbq.size, hbq.block⟩) hw0.size)
          clear hbq
          go_wp2_with fail
          clear hHeld
          refine hK.out _ _ ⟨keepB hw0 c0 al, keepB hw0 c1 al, keepB hw0 c2 al, keepB hw0 c3 al, keepB hw0 c4 al, keepB hw0 c5 al, keepB hw0 c6 al, keepB hw0 c7 al, keepB hw0 c8 al, keepB hw0 c9 al, keepB hw0 c10 al, keepB hw0 c11 al⟩ (fun hHeld => ?_)
          clear hK K
          try simp only [Act.put, List.setIfInBounds_toArray, List.set_cons_zero, List.set_cons_succ]
          refine wpAnyH_ready (rs := [20]) (by kernel_rfl) (by simp) (AllReadyH.cons (o := ({ dst := some 30, op := Op.call { callee := Callee.value (Operand.func 36), args := #[Operand.tmp 24, Operand.tmp 27, Operand.tmp 29], argTypes := #[9, 67, 60] }, type := 9, pos := "ref.go:48", after := #[{ on := 14, ground := Ground.data }, { on := 17, ground := Ground.data }, { on := 19, ground := Ground.data }, { on := 19, ground := Ground.chain }], guard := none })) rfl (fun K hK => ?_) AllReadyH.nil)
          go_simp
          rw [HHD.out]
          refine (RL.out _ _ _ hvn.out hvi.out).mono ?_
          rintro e wc ⟨rfl, hbq⟩
          replace hw0 := hw0.trans (Below.mono (by exact ⟨hbq.os, hbq.tape, hbq.output, hbq.size, hbq.block⟩) hw0.size)
          clear hbq
          go_wp2_with fail
          clear hHeld
          refine hK.out _ _ ⟨keepB hw0 c0 al, keepB hw0 c1 al, keepB hw0 c2 al, keepB hw0 c3 al, keepB hw0 c4 al, keepB hw0 c5 al, keepB hw0 c6 al, keepB hw0 c7 al, keepB hw0 c8 al, keepB hw0 c9 al, keepB hw0 c10 al, keepB hw0 c11 al⟩ (fun hHeld => ?_)
          clear hK K
          try simp only [Act.put, List.setIfInBounds_toArray, List.set_cons_zero, List.set_cons_succ]
          refine wpAnyH_take (i := 21) (oi := ({ dst := some 2, op := Op.assign (Operand.tmp 30), type := 9, pos := "ref.go:48", after := #[{ on := 20, ground := Ground.data }, { on := 20, ground := Ground.chain }, { on := 0, ground := Ground.phase }, { on := 1, ground := Ground.phase }, { on := 2, ground := Ground.phase }, { on := 3, ground := Ground.phase }, { on := 4, ground := Ground.phase }, { on := 5, ground := Ground.phase }, { on := 6, ground := Ground.phase }, { on := 7, ground := Ground.phase }, { on := 8, ground := Ground.phase }, { on := 9, ground := Ground.phase }, { on := 10, ground := Ground.phase }, { on := 11, ground := Ground.phase }, { on := 12, ground := Ground.phase }, { on := 13, ground := Ground.phase }, { on := 14, ground := Ground.phase }, { on := 15, ground := Ground.phase }, { on := 16, ground := Ground.phase }, { on := 17, ground := Ground.phase }, { on := 18, ground := Ground.phase }, { on := 19, ground := Ground.phase }, { on := 20, ground := Ground.phase }], guard := none })) (v := (.string LS)) rfl (by kernel_rfl) (by kernel_rfl) (by kernel_rfl) (fun _ _ _ h => h) (Or.inl ⟨by rfl, ?_⟩) (by assumption) ?_
          · (intro w hSw; (try dsimp only at hSw); go_simp; try omega)
          try simp only [Act.put, List.setIfInBounds_toArray, List.set_cons_zero, List.set_cons_succ]
          refine wpAnyH_take (i := 22) (oi := ({ dst := some 3, op := Op.assign (Operand.const (Value.int IntKind.i64 0)), type := 27, pos := "ref.go:48", after := #[{ on := 21, ground := Ground.chain }, { on := 0, ground := Ground.phase }, { on := 1, ground := Ground.phase }, { on := 2, ground := Ground.phase }, { on := 3, ground := Ground.phase }, { on := 4, ground := Ground.phase }, { on := 5, ground := Ground.phase }, { on := 6, ground := Ground.phase }, { on := 7, ground := Ground.phase }, { on := 8, ground := Ground.phase }, { on := 9, ground := Ground.phase }, { on := 10, ground := Ground.phase }, { on := 11, ground := Ground.phase }, { on := 12, ground := Ground.phase }, { on := 13, ground := Ground.phase }, { on := 14, ground := Ground.phase }, { on := 15, ground := Ground.phase }, { on := 16, ground := Ground.phase }, { on := 17, ground := Ground.phase }, { on := 18, ground := Ground.phase }, { on := 19, ground := Ground.phase }, { on := 20, ground := Ground.phase }, { on := 21, ground := Ground.phase }], guard := none })) (v := (.int .i64 0)) rfl (by kernel_rfl) (by kernel_rfl) (by kernel_rfl) (fun _ _ _ h => h) (Or.inl ⟨by rfl, ?_⟩) (by assumption) ?_
          · (intro w hSw; (try dsimp only at hSw); go_simp; try omega)
          try simp only [Act.put, List.setIfInBounds_toArray, List.set_cons_zero, List.set_cons_succ]
          refine wpAnyH_done (by kernel_rfl) ?_ _
          clear hHeld
          go_wp2_with fail
          go_ret2
          exact ⟨by rw [HLS.out]; rfl, HB1.out.trans (hw0.mono (by have := HB1.out.size; have := HN0.out; omega))⟩
        · go_simp
          refine (ND.out _).mono ?_
          rintro e wc ⟨vn, rfl, hvn, hbq⟩
          replace hvn := Lib.hid hvn
          replace hwc := keepB hbq hwc hwl
          replace hwl := Nat.lt_of_lt_of_le hwl hbq.size
          replace hw0 := hw0.trans (Below.mono (by exact ⟨hbq.os, hbq.tape, hbq.output, hbq.size, hbq.block⟩) hw0.size)
          clear hbq
          go_wp2_with fail
          clear hHeld
          refine hK.out _ _ ⟨keepB hw0 c0 al, keepB hw0 c1 al, keepB hw0 c2 al, keepB hw0 c3 al, keepB hw0 c4 al, keepB hw0 c5 al, keepB hw0 c6 al, keepB hw0 c7 al, keepB hw0 c8 al, keepB hw0 c9 al, keepB hw0 c10 al, keepB hw0 c11 al⟩ (fun hHeld => ?_)
          clear hK K
          try simp only [Act.put, List.setIfInBounds_toArray, List.set_cons_zero, List.set_cons_succ]
          refine wpAnyH_ready (rs := [4, 19]) (by kernel_rfl) (by simp) (AllReadyH.cons (o := ({ dst := some 14, op := Op.load 9 (Operand.tmp 13), type := 9, pos := "ref.go:48", after := #[{ on := 3, ground := Ground.data }], guard := none })) rfl (fun K hK => ?_) (AllReadyH.cons (o := ({ dst := some 29, op := Op.call { callee := Callee.value (Operand.func 40), args := #[Operand.tmp 28], argTypes := #[25] }, type := 60, pos := "ref.go:48", after := #[{ on := 18, ground := Ground.data }, { on := 17, ground := Ground.chain }], guard := none })) rfl (fun K hK => ?_) AllReadyH.nil))
          · go_simp
            clear hHeld
            refine hK.out _ _ ⟨keepB hw0 c0 al, keepB hw0 c1 al, keepB hw0 c2 al, keepB hw0 c3 al, keepB hw0 c4 al, keepB hw0 c5 al, keepB hw0 c6 al, keepB hw0 c7 al, keepB hw0 c8 al, keepB hw0 c9 al, keepB hw0 c10 al, keepB hw0 c11 al⟩ (fun hHeld => ?_)
            clear hK K
            try simp only [Act.put, List.setIfInBounds_toArray, List.set_cons_zero, List.set_cons_succ]
            refine wpAnyH_take (i := 5) (oi := ({ dst := some 15, op := Op.binOp BinOp.add 9 (Operand.tmp 14) (Operand.const (Value.string { data := #[32] })) 9, type := 9, pos := "ref.go:48", after := #[{ on := 4, ground := Ground.data }], guard := none })) (v := (.string (KW ++ ⟨#[32]⟩))) rfl (by kernel_rfl) (by kernel_rfl) (by kernel_rfl) (fun _ _ _ h => h) (Or.inl ⟨by rfl, ?_⟩) (by assumption) ?_
            · (intro w hSw; (try dsimp only at hSw); go_simp; try omega)
            try simp only [Act.put, List.setIfInBounds_toArray, List.set_cons_zero, List.set_cons_succ]
            refine wpAnyH_take (i := 9) (oi := ({ dst := some 19, op := Op.binOp BinOp.add 9 (Operand.tmp 15) (Operand.tmp 18) 9, type := 9, pos := "ref.go:48", after := #[{ on := 5, ground := Ground.data }, { on := 8, ground := Ground.data }], guard := none })) (v := (.string (KW ++ ⟨#[32]⟩ ++ NF))) rfl (by kernel_rfl) (by kernel_rfl) (by kernel_rfl) (fun _ _ _ h => h) (Or.inl ⟨by rfl, ?_⟩) (by assumption) ?_
            · (intro w hSw; (try dsimp only at hSw); go_simp; try omega)
            try simp only [Act.put, List.setIfInBounds_toArray, List.set_cons_zero, List.set_cons_succ]
            refine wpAnyH_take (i := 10) (oi := ({ dst := some 20, op := Op.binOp BinOp.add 9 (Operand.tmp 19) (Operand.const (Value.string { data := #[32] })) 9, type := 9, pos := "ref.go:48", after := #[{ on := 9, ground := Ground.data }], guard := none })) (v := (.string (KW ++ ⟨#[32]⟩ ++ NF ++ ⟨#[32]⟩))) rfl (by kernel_rfl) (by kernel_rfl) (by kernel_rfl) (fun _ _ _ h => h) (Or.inl ⟨by rfl, ?_⟩) (by assumption) ?_
            · (intro w hSw; (try dsimp only at hSw); go_simp; try omega)
            try simp only [Act.put, List.setIfInBounds_toArray, List.set_cons_zero, List.set_cons_succ]
            refine wpAnyH_take (i := 14) (oi := ({ dst := some 24, op := Op.binOp BinOp.add 9 (Operand.tmp 20) (Operand.tmp 23) 9, type := 9, pos := "ref.go:48", after := #[{ on := 10, ground := Ground.data }, { on := 13, ground := Ground.data }], guard := none })) (v := (.string (KW ++ ⟨#[32]⟩ ++ NF ++ ⟨#[32]⟩ ++ NT))) rfl (by kernel_rfl) (by kernel_rfl) (by kernel_rfl) (fun _ _ _ h => h) (Or.inl ⟨by rfl, ?_⟩) (by assumption) ?_
            · (intro w hSw; (try dsimp only at hSw); go_simp; try omega)
            try simp only [Act.put, List.setIfInBounds_toArray, List.set_cons_zero, List.set_cons_succ]
            refine wpAnyH_ready (rs := [19]) (by kernel_rfl) (by simp) (AllReadyH.cons (o := ({ dst := some 29, op := Op.call { callee := Callee.value (Operand.func 40), args := #[Operand.tmp 28], argTypes := #[25] }, type := 60, pos := "ref.go:48", after := #[{ on := 18, ground := Ground.data }, { on := 17, ground := Ground.chain }], guard := none })) rfl (fun K hK => ?_) AllReadyH.nil)
            go_simp
            refine (MD.out _).mono ?_
            rintro e wc ⟨vi, rfl, hvi, hbq⟩
            replace hvi := Lib.hid (OwnN.row (by exact hvi))
            replace hvn := Lib.hid (hvn.out.below hbq (Nat.le_refl _))
            replace hwc := keepB hbq hwc hwl
            replace hwl := Nat.lt_of_lt_of_le hwl hbq.size
            replace hw0 := hw0.trans (Below.mono (by exact ⟨hbq.os, hbq.tape, hbq.output, hbq.size, hbq.block⟩) hw0.size)
            clear hbq
            go_wp2_with fail
            clear hHeld
            refine hK.out _ _ ⟨keepB hw0 c0 al, keepB hw0 c1 al, keepB hw0 c2 al, keepB hw0 c3 al, keepB hw0 c4 al, keepB hw0 c5 al, keepB hw0 c6 al, keepB hw0 c7 al, keepB hw0 c8 al, keepB hw0 c9 al, keepB hw0 c10 al, keepB hw0 c11 al⟩ (fun hHeld => ?_)
            clear hK K
            try simp only [Act.put, List.setIfInBounds_toArray, List.set_cons_zero, List.set_cons_succ]
            refine wpAnyH_ready (rs := [20]) (by kernel_rfl) (by simp) (AllReadyH.cons (o := ({ dst := some 30, op := Op.call { callee := Callee.value (Operand.func 36), args := #[Operand.tmp 24, Operand.tmp 27, Operand.tmp 29], argTypes := #[9, 67, 60] }, type := 9, pos := "ref.go:48", after := #[{ on := 14, ground := Ground.data }, { on := 17, ground := Ground.data }, { on := 19, ground := Ground.data }, { on := 19, ground := Ground.chain }], guard := none })) rfl (fun K hK => ?_) AllReadyH.nil)
            go_simp
            rw [HHD.out]
            refine (RL.out _ _ _ hvn.out hvi.out).mono ?_
            rintro e wc ⟨rfl, hbq⟩
            replace hw0 := hw0.trans (Below.mono (by exact ⟨hbq.os, hbq.tape, hbq.output, hbq.size, hbq.block⟩) hw0.size)
            clear hbq
            go_wp2_with fail
            clear hHeld
            refine hK.out _ _ ⟨keepB hw0 c0 al, keepB hw0 c1 al, keepB hw0 c2 al, keepB hw0 c3 al, keepB hw0 c4 al, keepB hw0 c5 al, keepB hw0 c6 al, keepB hw0 c7 al, keepB hw0 c8 al, keepB hw0 c9 al, keepB hw0 c10 al, keepB hw0 c11 al⟩ (fun hHeld => ?_)
            clear hK K
            try simp only [Act.put, List.setIfInBounds_toArray, List.set_cons_zero, List.set_cons_succ]
            refine wpAnyH_take (i := 21) (oi := ({ dst := some 2, op := Op.assign (Operand.tmp 30), type := 9, pos := "ref.go:48", after := #[{ on := 20, ground := Ground.data }, { on := 20, ground := Ground.chain }, { on := 0, ground := Ground.phase }, { on := 1, ground := Ground.phase }, { on := 2, ground := Ground.phase }, { on := 3, ground := Ground.phase }, { on := 4, ground := Ground.phase }, { on := 5, ground := Ground.phase }, { on := 6, ground := Ground.phase }, { on := 7, ground := Ground.phase }, { on := 8, ground := Ground.phase }, { on := 9, ground := Ground.phase }, { on := 10, ground := Ground.phase }, { on := 11, ground := Ground.phase }, { on := 12, ground := Ground.phase }, { on := 13, ground := Ground.phase }, { on := 14, ground := Ground.phase }, { on := 15, ground := Ground.phase }, { on := 16, ground := Ground.phase }, { on := 17, ground := Ground.phase }, { on := 18, ground := Ground.phase }, { on := 19, ground := Ground.phase }, { on := 20, ground := Ground.phase }], guard := none })) (v := (.string LS)) rfl (by kernel_rfl) (by kernel_rfl) (by kernel_rfl) (fun _ _ _ h => h) (Or.inl ⟨by rfl, ?_⟩) (by assumption) ?_
            · (intro w hSw; (try dsimp only at hSw); go_simp; try omega)
            try simp only [Act.put, List.setIfInBounds_toArray, List.set_cons_zero, List.set_cons_succ]
            refine wpAnyH_take (i := 22) (oi := ({ dst := some 3, op := Op.assign (Operand.const (Value.int IntKind.i64 0)), type := 27, pos := "ref.go:48", after := #[{ on := 21, ground := Ground.chain }, { on := 0, ground := Ground.phase }, { on := 1, ground := Ground.phase }, { on := 2, ground := Ground.phase }, { on := 3, ground := Ground.phase }, { on := 4, ground := Ground.phase }, { on := 5, ground := Ground.phase }, { on := 6, ground := Ground.phase }, { on := 7, ground := Ground.phase }, { on := 8, ground := Ground.phase }, { on := 9, ground := Ground.phase }, { on := 10, ground := Ground.phase }, { on := 11, ground := Ground.phase }, { on := 12, ground := Ground.phase }, { on := 13, ground := Ground.phase }, { on := 14, ground := Ground.phase }, { on := 15, ground := Ground.phase }, { on := 16, ground := Ground.phase }, { on := 17, ground := Ground.phase }, { on := 18, ground := Ground.phase }, { on := 19, ground := Ground.phase }, { on := 20, ground := Ground.phase }, { on := 21, ground := Ground.phase }], guard := none })) (v := (.int .i64 0)) rfl (by kernel_rfl) (by kernel_rfl) (by kernel_rfl) (fun _ _ _ h => h) (Or.inl ⟨by rfl, ?_⟩) (by assumption) ?_
            · (intro w hSw; (try dsimp only at hSw); go_simp; try omega)
            try simp only [Act.put, List.setIfInBounds_toArray, List.set_cons_zero, List.set_cons_succ]
            refine wpAnyH_done (by kernel_rfl) ?_ _
            clear hHeld
            go_wp2_with fail
            go_ret2
            exact ⟨by rw [HLS.out]; rfl, HB1.out.trans (hw0.mono (by have := HB1.out.size; have := HN0.out; omega))⟩
          · go_simp
            refine (MD.out _).mono ?_
            rintro e wc ⟨vi, rfl, hvi, hbq⟩
            replace hvi := Lib.hid (OwnN.row (by exact hvi))
            replace hvn := Lib.hid (hvn.out.below hbq (Nat.le_refl _))
            replace hwc := keepB hbq hwc hwl
            replace hwl := Nat.lt_of_lt_of_le hwl hbq.size
            replace hw0 := hw0.trans (Below.mono (by exact ⟨hbq.os, hbq.tape, hbq.output, hbq.size, hbq.block⟩) hw0.size)
            clear hbq
            go_wp2_with fail
            clear hHeld
            refine hK.out _ _ ⟨keepB hw0 c0 al, keepB hw0 c1 al, keepB hw0 c2 al, keepB hw0 c3 al, keepB hw0 c4 al, keepB hw0 c5 al, keepB hw0 c6 al, keepB hw0 c7 al, keepB hw0 c8 al, keepB hw0 c9 al, keepB hw0 c10 al, keepB hw0 c11 al⟩ (fun hHeld => ?_)
            clear hK K
            try simp only [Act.put, List.setIfInBounds_toArray, List.set_cons_zero, List.set_cons_succ]
            refine wpAnyH_ready (rs := [4]) (by kernel_rfl) (by simp) (AllReadyH.cons (o := ({ dst := some 14, op := Op.load 9 (Operand.tmp 13), type := 9, pos := "ref.go:48", after := #[{ on := 3, ground := Ground.data }], guard := none })) rfl (fun K hK => ?_) AllReadyH.nil)
            go_simp
            clear hHeld
            refine hK.out _ _ ⟨keepB hw0 c0 al, keepB hw0 c1 al, keepB hw0 c2 al, keepB hw0 c3 al, keepB hw0 c4 al, keepB hw0 c5 al, keepB hw0 c6 al, keepB hw0 c7 al, keepB hw0 c8 al, keepB hw0 c9 al, keepB hw0 c10 al, keepB hw0 c11 al⟩ (fun hHeld => ?_)
            clear hK K
            try simp only [Act.put, List.setIfInBounds_toArray, List.set_cons_zero, List.set_cons_succ]
            refine wpAnyH_take (i := 5) (oi := ({ dst := some 15, op := Op.binOp BinOp.add 9 (Operand.tmp 14) (Operand.const (Value.string { data := #[32] })) 9, type := 9, pos := "ref.go:48", after := #[{ on := 4, ground := Ground.data }], guard := none })) (v := (.string (KW ++ ⟨#[32]⟩))) rfl (by kernel_rfl) (by kernel_rfl) (by kernel_rfl) (fun _ _ _ h => h) (Or.inl ⟨by rfl, ?_⟩) (by assumption) ?_
            · (intro w hSw; (try dsimp only at hSw); go_simp; try omega)
            try simp only [Act.put, List.setIfInBounds_toArray, List.set_cons_zero, List.set_cons_succ]
            refine wpAnyH_take (i := 9) (oi := ({ dst := some 19, op := Op.binOp BinOp.add 9 (Operand.tmp 15) (Operand.tmp 18) 9, type := 9, pos := "ref.go:48", after := #[{ on := 5, ground := Ground.data }, { on := 8, ground := Ground.data }], guard := none })) (v := (.string (KW ++ ⟨#[32]⟩ ++ NF))) rfl (by kernel_rfl) (by kernel_rfl) (by kernel_rfl) (fun _ _ _ h => h) (Or.inl ⟨by rfl, ?_⟩) (by assumption) ?_
            · (intro w hSw; (try dsimp only at hSw); go_simp; try omega)
            try simp only [Act.put, List.setIfInBounds_toArray, List.set_cons_zero, List.set_cons_succ]
            refine wpAnyH_take (i := 10) (oi := ({ dst := some 20, op := Op.binOp BinOp.add 9 (Operand.tmp 19) (Operand.const (Value.string { data := #[32] })) 9, type := 9, pos := "ref.go:48", after := #[{ on := 9, ground := Ground.data }], guard := none })) (v := (.string (KW ++ ⟨#[32]⟩ ++ NF ++ ⟨#[32]⟩))) rfl (by kernel_rfl) (by kernel_rfl) (by kernel_rfl) (fun _ _ _ h => h) (Or.inl ⟨by rfl, ?_⟩) (by assumption) ?_
            · (intro w hSw; (try dsimp only at hSw); go_simp; try omega)
            try simp only [Act.put, List.setIfInBounds_toArray, List.set_cons_zero, List.set_cons_succ]
            refine wpAnyH_take (i := 14) (oi := ({ dst := some 24, op := Op.binOp BinOp.add 9 (Operand.tmp 20) (Operand.tmp 23) 9, type := 9, pos := "ref.go:48", after := #[{ on := 10, ground := Ground.data }, { on := 13, ground := Ground.data }], guard := none })) (v := (.string (KW ++ ⟨#[32]⟩ ++ NF ++ ⟨#[32]⟩ ++ NT))) rfl (by kernel_rfl) (by kernel_rfl) (by kernel_rfl) (fun _ _ _ h => h) (Or.inl ⟨by rfl, ?_⟩) (by assumption) ?_
            · (intro w hSw; (try dsimp only at hSw); go_simp; try omega)
            try simp only [Act.put, List.setIfInBounds_toArray, List.set_cons_zero, List.set_cons_succ]
            refine wpAnyH_ready (rs := [20]) (by kernel_rfl) (by simp) (AllReadyH.cons (o := ({ dst := some 30, op := Op.call { callee := Callee.value (Operand.func 36), args := #[Operand.tmp 24, Operand.tmp 27, Operand.tmp 29], argTypes := #[9, 67, 60] }, type := 9, pos := "ref.go:48", after := #[{ on := 14, ground := Ground.data }, { on := 17, ground := Ground.data }, { on := 19, ground := Ground.data }, { on := 19, ground := Ground.chain }], guard := none })) rfl (fun K hK => ?_) AllReadyH.nil)
            go_simp
            rw [HHD.out]
            refine (RL.out _ _ _ hvn.out hvi.out).mono ?_
            rintro e wc ⟨rfl, hbq⟩
            replace hw0 := hw0.trans (Below.mono (by exact ⟨hbq.os, hbq.tape, hbq.output, hbq.size, hbq.block⟩) hw0.size)
            clear hbq
            go_wp2_with fail
            clear hHeld
            refine hK.out _ _ ⟨keepB hw0 c0 al, keepB hw0 c1 al, keepB hw0 c2 al, keepB hw0 c3 al, keepB hw0 c4 al, keepB hw0 c5 al, keepB hw0 c6 al, keepB hw0 c7 al, keepB hw0 c8 al, keepB hw0 c9 al, keepB hw0 c10 al, keepB hw0 c11 al⟩ (fun hHeld => ?_)
            clear hK K
            try simp only [Act.put, List.setIfInBounds_toArray, List.set_cons_zero, List.set_cons_succ]
            refine wpAnyH_take (i := 21) (oi := ({ dst := some 2, op := Op.assign (Operand.tmp 30), type := 9, pos := "ref.go:48", after := #[{ on := 20, ground := Ground.data }, { on := 20, ground := Ground.chain }, { on := 0, ground := Ground.phase }, { on := 1, ground := Ground.phase }, { on := 2, ground := Ground.phase }, { on := 3, ground := Ground.phase }, { on := 4, ground := Ground.phase }, { on := 5, ground := Ground.phase }, { on := 6, ground := Ground.phase }, { on := 7, ground := Ground.phase }, { on := 8, ground := Ground.phase }, { on := 9, ground := Ground.phase }, { on := 10, ground := Ground.phase }, { on := 11, ground := Ground.phase }, { on := 12, ground := Ground.phase }, { on := 13, ground := Ground.phase }, { on := 14, ground := Ground.phase }, { on := 15, ground := Ground.phase }, { on := 16, ground := Ground.phase }, { on := 17, ground := Ground.phase }, { on := 18, ground := Ground.phase }, { on := 19, ground := Ground.phase }, { on := 20, ground := Ground.phase }], guard := none })) (v := (.string LS)) rfl (by kernel_rfl) (by kernel_rfl) (by kernel_rfl) (fun _ _ _ h => h) (Or.inl ⟨by rfl, ?_⟩) (by assumption) ?_
            · (intro w hSw; (try dsimp only at hSw); go_simp; try omega)
            try simp only [Act.put, List.setIfInBounds_toArray, List.set_cons_zero, List.set_cons_succ]
            refine wpAnyH_take (i := 22) (oi := ({ dst := some 3, op := Op.assign (Operand.const (Value.int IntKind.i64 0)), type := 27, pos := "ref.go:48", after := #[{ on := 21, ground := Ground.chain }, { on := 0, ground := Ground.phase }, { on := 1, ground := Ground.phase }, { on := 2, ground := Ground.phase }, { on := 3, ground := Ground.phase }, { on := 4, ground := Ground.phase }, { on := 5, ground := Ground.phase }, { on := 6, ground := Ground.phase }, { on := 7, ground := Ground.phase }, { on := 8, ground := Ground.phase }, { on := 9, ground := Ground.phase }, { on := 10, ground := Ground.phase }, { on := 11, ground := Ground.phase }, { on := 12, ground := Ground.phase }, { on := 13, ground := Ground.phase }, { on := 14, ground := Ground.phase }, { on := 15, ground := Ground.phase }, { on := 16, ground := Ground.phase }, { on := 17, ground := Ground.phase }, { on := 18, ground := Ground.phase }, { on := 19, ground := Ground.phase }, { on := 20, ground := Ground.phase }, { on := 21, ground := Ground.phase }], guard := none })) (v := (.int .i64 0)) rfl (by kernel_rfl) (by kernel_rfl) (by kernel_rfl) (fun _ _ _ h => h) (Or.inl ⟨by rfl, ?_⟩) (by assumption) ?_
            · (intro w hSw; (try dsimp only at hSw); go_simp; try omega)
            try simp only [Act.put, List.setIfInBounds_toArray, List.set_cons_zero, List.set_cons_succ]
            refine wpAnyH_done (by kernel_rfl) ?_ _
            clear hHeld
            go_wp2_with fail
            go_ret2
            exact ⟨by rw [HLS.out]; rfl, HB1.out.trans (hw0.mono (by have := HB1.out.size; have := HN0.out; omega))⟩
  · have hR := HLI2.out hz0
    obtain rfl : LR1 = [] := (Prod.mk.inj hR).1
    obtain rfl : LR2 = CK := (Prod.mk.inj hR).2
    have hne : (LR2 == 0) = false := by simp [hz0]
    have hne2 : (LR2 != 0) = true := by simp [hz0]
    clear hR HLI HLI2
    go_wp2_with fail
    go_ret2
    exact ⟨rfl, HB1.out⟩
end Go.Proofs.YtanihdpgblkeaaaGreatDoor
