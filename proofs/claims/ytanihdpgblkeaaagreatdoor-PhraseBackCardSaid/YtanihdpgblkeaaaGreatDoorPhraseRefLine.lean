/-
  Events as texts (reeve's layer 19): the reference's Line.
-/
import Derived.Test.YtanihdpgblkeaaaGreatDoorPhraseRef
namespace Go.Proofs.YtanihdpgblkeaaaGreatDoor
open Go.RowKit
set_option linter.unusedVariables false
set_option linter.unusedSimpArgs false

theorem ref19_wordsK (k : Int) (hk : 1 ≤ k ∧ k ≤ 7) (w : World) : Calls Tryz.prog 91 #[] w fun e w' => ∃ b, e = .returned (.slice (some ⟨b, 0, none⟩) 8 8) ∧ b < w'.heap.size ∧ w'.cell? ⟨b, k.toNat, none⟩ = some (.string (strL (kindW k))) ∧ Below w.heap.size w w' := by
  go_enter Tryz.func91, Tryz.ntmps91
  go_wp2_with fail
  go_ret
  refine ⟨w.heap.size, rfl, by simp, ?_, (Below.refl _ _).alloc (Nat.le_refl _) _⟩
  have h := Blk.new w (wordsK.map (Value.string ∘ strL)).toArray 9
  refine h.cell ?_
  rcases kind_seven hk with rfl | rfl | rfl | rfl | rfl | rfl | rfl <;> rfl
theorem below_self_ {B : Nat} {w W : World} (_ : Below B w W) : Below W.heap.size W W := Below.refl _ _
set_option maxRecDepth 100000 in
set_option maxHeartbeats 6400000 in
theorem ref19_line (l : List Int) (hl : l.length = 8) (hw : wfI l) (w : World) :
    Calls Tryz.prog 54 #[.agg (cellsI l)] w fun e w' => e = .returned (.tuple #[.string (strL (lineR l).1), .int .i64 (lineR l).2]) ∧ Below w.heap.size w w' := by
  have HCK := Lib.hid (fun w => ref18_check l hl w)
  have hk := fun h => (check_kind_p (l := l) h).2
  have hline : checkL l = 0 → lineR l = (rowL (kindW (fld l 0)) (namesW (fld l 0)) (numsL l), 0) := fun h => by unfold lineR; rw [if_pos h]
  have hline2 : checkL l ≠ 0 → lineR l = ([], checkL l) := fun h => by unfold lineR; rw [if_neg h]
  have hni := numsL_in hw
  have hnl := numsL_len l
  have hn5 := (namesW_len (fld l 0)).1
  have hnm := fun h w => ref19_numbers l hl h w
  obtain ⟨LR, hLR⟩ : ∃ R, lineR l = R := ⟨_, rfl⟩
  rw [hLR] at hline hline2 ⊢
  obtain ⟨LR1, LR2⟩ := LR
  obtain ⟨CK, hCK⟩ : ∃ c, checkL l = c := ⟨_, rfl⟩
  rw [hCK] at HCK hk hline hline2
  obtain ⟨k, n, j, i, p, x, y, z, hl8⟩ := eight_of hl
  have hk0 : fld l 0 = k := by rw [hl8]; rfl
  have hcell : cellsI l = #[.int .i64 k, .int .i64 n, .int .i64 j, .int .i64 i, .int .i64 p, .int .i64 x, .int .i64 y, .int .i64 z] := by rw [hl8]; rfl
  rw [hk0] at hk hline hnl hn5 hnm
  rw [hcell] at HCK hnm ⊢
  obtain ⟨NS, hNS⟩ : ∃ N, numsL l = N := ⟨_, rfl⟩
  rw [hNS] at hline hni hnl
  simp only [hNS] at hnm
  obtain ⟨n0, hn0⟩ : ∃ n, w.heap.size = n := ⟨_, rfl⟩
  obtain ⟨W, hW⟩ : ∃ W, w.alloc (.cells #[.int .i64 k, .int .i64 n, .int .i64 j, .int .i64 i, .int .i64 p, .int .i64 x, .int .i64 y, .int .i64 z] 43) = W := ⟨_, rfl⟩
  have hb0 : Below n0 w W := by rw [← hW, ← hn0]; exact (Below.refl _ _).alloc (Nat.le_refl _) _
  have K : Blk W n0 #[.int .i64 k, .int .i64 n, .int .i64 j, .int .i64 i, .int .i64 p, .int .i64 x, .int .i64 y, .int .i64 z] 43 := by rw [← hW, ← hn0]; exact Blk.new w _ _
  have HK := Lib.hid K
  have HB := Lib.hid hb0
  have HW := Lib.hid hW
  have HN0 := Lib.hid hn0
  have HLI := Lib.hid hline
  have HLI2 := Lib.hid hline2
  have HNI := Lib.hid hni
  have HNL := Lib.hid hnl
  have HN5 := Lib.hid hn5
  have HKK := Lib.hid hk
  have HNM := Lib.hid hnm
  rw [hn0]
  clear hW hb0 K hline hline2 hni hnl hn5 hk hLR hCK hl8 hk0 hcell hNS hn0 hw hl hnm
  go_enter Tryz.func54, Tryz.ntmps54
  go_upto_region 1 with fail
  rw [HW.out]
  try rw [HN0.out]
  clear HW
  have c0 := HK.out.cell (i := 0) rfl
  have c1 := HK.out.cell (i := 1) rfl
  have c2 := HK.out.cell (i := 2) rfl
  have c3 := HK.out.cell (i := 3) rfl
  have c4 := HK.out.cell (i := 4) rfl
  have c5 := HK.out.cell (i := 5) rfl
  have c6 := HK.out.cell (i := 6) rfl
  have c7 := HK.out.cell (i := 7) rfl
  go_wp2_with fail
  refine (HCK.out _).mono ?_
  rintro e w1 ⟨rfl, hb1⟩
  clear c0 c1 c2 c3 c4 c5 c6 c7 HCK
  have HK1 := Lib.hid (HK.out.below hb1 HK.out.lt)
  have HB1 := Lib.hid (HB.out.trans (hb1.mono (by have := HB.out.size; have := HN0.out; have := HK.out.lt; omega)))
  clear hb1 HK HB
  by_cases hz0 : CK = 0
  · have hR := HLI.out hz0
    obtain rfl : LR1 = _ := (Prod.mk.inj hR).1
    obtain rfl : LR2 = 0 := (Prod.mk.inj hR).2
    have hk17 := HKK.out hz0
    subst hz0
    obtain ⟨q, rfl⟩ : ∃ q : Nat, k = (q : Int) := ⟨k.toNat, by omega⟩
    have WD := Lib.hid (fun w => ref19_wordsK (q : Int) hk17 w)
    have ND := Lib.hid (fun w => ref19_names (q : Int) hk17 w)
    have MD := Lib.hid (fun w => HNM.out hk17 w)
    have RL := Lib.hid (fun (wx : World) (vn vi : Value) (h1 : RowS wx vn ((namesW (q : Int)).map strL)) (h2 : RowN wx vi NS) => ref07_line (kindW (q : Int)) vn vi (namesW (q : Int)) NS wx h1 h2 (kindW_len q) (by have := HN5.out; omega) (namesW_len q).2 (by have := HNL.out; have := HN5.out; omega) HNI.out)
    have q0 : (0 : Int) ≤ (q : Int) := by omega
    have q8 : (q : Int) < 8 := by omega
    rw [show ((q : Int)).toNat = q by omega] at WD
    have c0 := HK1.out.cell (i := 0) rfl
    have c1 := HK1.out.cell (i := 1) rfl
    have c2 := HK1.out.cell (i := 2) rfl
    have c3 := HK1.out.cell (i := 3) rfl
    have c4 := HK1.out.cell (i := 4) rfl
    have c5 := HK1.out.cell (i := 5) rfl
    have c6 := HK1.out.cell (i := 6) rfl
    have c7 := HK1.out.cell (i := 7) rfl
    have al := HK1.out.lt
    have hw0 := below_self_ HB1.out
    clear hR HLI HLI2 HKK HNM HK1 hk17
    go_upto_region 4 with fail
    refine wp_region_held_drew (S := (fun w' => w'.cell? ⟨n0, 0, none⟩ = some (.int .i64 q) ∧ w'.cell? ⟨n0, 1, none⟩ = some (.int .i64 n) ∧ w'.cell? ⟨n0, 2, none⟩ = some (.int .i64 j) ∧ w'.cell? ⟨n0, 3, none⟩ = some (.int .i64 i) ∧ w'.cell? ⟨n0, 4, none⟩ = some (.int .i64 p) ∧ w'.cell? ⟨n0, 5, none⟩ = some (.int .i64 x) ∧ w'.cell? ⟨n0, 6, none⟩ = some (.int .i64 y) ∧ w'.cell? ⟨n0, 7, none⟩ = some (.int .i64 z))) (by kernel_rfl) ⟨c0, c1, c2, c3, c4, c5, c6, c7⟩ (fun hHeld => ?_)
    refine wpAnyH_take (i := 1) (oi := ({ dst := some 11, op := Op.fieldAddr 43 (Operand.tmp 1) 0, type := 0, pos := "ref.go:59", after := #[], guard := none })) (v := (.pointer (some ⟨n0, 0, none⟩))) rfl (by kernel_rfl) (by kernel_rfl) (by kernel_rfl) (fun _ _ _ h => h) (Or.inl ⟨by rfl, ?_⟩) (by assumption) ?_
    · (intro w hSw; (try dsimp only at hSw); go_simp)
    try simp only [Act.put, List.setIfInBounds_toArray, List.set_cons_zero, List.set_cons_succ]
    refine wpAnyH_take (i := 2) (oi := ({ dst := some 12, op := Op.load 3 (Operand.tmp 11), type := 3, pos := "ref.go:59", after := #[{ on := 1, ground := Ground.data }], guard := none })) (v := (.int .i64 q)) rfl (by kernel_rfl) (by kernel_rfl) (by kernel_rfl) (fun _ _ _ h => h) (Or.inl ⟨by rfl, ?_⟩) (by assumption) ?_
    · (intro w hSw; (try dsimp only at hSw); go_simp)
    try simp only [Act.put, List.setIfInBounds_toArray, List.set_cons_zero, List.set_cons_succ]
    refine wpAnyH_take (i := 5) (oi := ({ dst := some 15, op := Op.fieldAddr 43 (Operand.tmp 1) 0, type := 0, pos := "ref.go:59", after := #[], guard := none })) (v := (.pointer (some ⟨n0, 0, none⟩))) rfl (by kernel_rfl) (by kernel_rfl) (by kernel_rfl) (fun _ _ _ h => h) (Or.inl ⟨by rfl, ?_⟩) (by assumption) ?_
    · (intro w hSw; (try dsimp only at hSw); go_simp)
    try simp only [Act.put, List.setIfInBounds_toArray, List.set_cons_zero, List.set_cons_succ]
    refine wpAnyH_take (i := 6) (oi := ({ dst := some 16, op := Op.load 3 (Operand.tmp 15), type := 3, pos := "ref.go:59", after := #[{ on := 5, ground := Ground.data }], guard := none })) (v := (.int .i64 q)) rfl (by kernel_rfl) (by kernel_rfl) (by kernel_rfl) (fun _ _ _ h => h) (Or.inl ⟨by rfl, ?_⟩) (by assumption) ?_
    · (intro w hSw; (try dsimp only at hSw); go_simp)
    try simp only [Act.put, List.setIfInBounds_toArray, List.set_cons_zero, List.set_cons_succ]
    refine wpAnyH_take (i := 8) (oi := ({ dst := some 18, op := Op.load 43 (Operand.tmp 1), type := 43, pos := "ref.go:59", after := #[], guard := none })) (v := (.agg #[.int .i64 q, .int .i64 n, .int .i64 j, .int .i64 i, .int .i64 p, .int .i64 x, .int .i64 y, .int .i64 z])) rfl (by kernel_rfl) (by kernel_rfl) (by kernel_rfl) (fun _ _ _ h => h) (Or.inl ⟨by rfl, ?_⟩) (by assumption) ?_
    · (intro w hSw; (try dsimp only at hSw); go_simp)
    try simp only [Act.put, List.setIfInBounds_toArray, List.set_cons_zero, List.set_cons_succ]
    refine wpAnyH_ready (rs := [0]) (by kernel_rfl) (by simp) (AllReadyH.cons (o := ({ dst := some 10, op := Op.call { callee := Callee.value (Operand.func 91), args := #[], argTypes := #[] }, type := 67, pos := "ref.go:59", after := #[], guard := none })) rfl (fun K hK => ?_) AllReadyH.nil)
    go_simp
    refine (WD.out _).mono ?_
    rintro e wc ⟨bw, rfl, hwl, hwc, hbq⟩
    replace hw0 := hw0.trans (Below.mono (by exact ⟨hbq.os, hbq.tape, hbq.output, hbq.size, hbq.block⟩) hw0.size)
    clear hbq
    go_wp2_with fail
    clear hHeld
    refine hK.out _ _ ⟨keepB hw0 c0 al, keepB hw0 c1 al, keepB hw0 c2 al, keepB hw0 c3 al, keepB hw0 c4 al, keepB hw0 c5 al, keepB hw0 c6 al, keepB hw0 c7 al⟩ (fun hHeld => ?_)
    clear hK K
    try simp only [Act.put, List.setIfInBounds_toArray, List.set_cons_zero, List.set_cons_succ]
    refine wpAnyH_take (i := 3) (oi := ({ dst := some 13, op := Op.indexAddr 67 (Operand.tmp 10) (Operand.tmp 12), type := 0, pos := "ref.go:59", after := #[{ on := 0, ground := Ground.data }, { on := 2, ground := Ground.data }], guard := none })) (v := (.pointer (some ⟨bw, q, none⟩))) rfl (by kernel_rfl) (by kernel_rfl) (by kernel_rfl) (fun _ _ _ h => h) (Or.inl ⟨by rfl, ?_⟩) (by assumption) ?_
    · (intro w hSw; (try dsimp only at hSw); go_simp)
    try simp only [Act.put, List.setIfInBounds_toArray, List.set_cons_zero, List.set_cons_succ]
    refine wpAnyH_ready (rs := [4, 7]) (by kernel_rfl) (by simp) (AllReadyH.cons (o := ({ dst := some 14, op := Op.load 9 (Operand.tmp 13), type := 9, pos := "ref.go:59", after := #[{ on := 3, ground := Ground.data }], guard := none })) rfl (fun K hK => ?_) (AllReadyH.cons (o := ({ dst := some 17, op := Op.call { callee := Callee.value (Operand.func 92), args := #[Operand.tmp 16], argTypes := #[3] }, type := 67, pos := "ref.go:59", after := #[{ on := 6, ground := Ground.data }, { on := 0, ground := Ground.chain }], guard := none })) rfl (fun K hK => ?_) AllReadyH.nil))
    · go_simp
      clear hHeld
      refine hK.out _ _ ⟨keepB hw0 c0 al, keepB hw0 c1 al, keepB hw0 c2 al, keepB hw0 c3 al, keepB hw0 c4 al, keepB hw0 c5 al, keepB hw0 c6 al, keepB hw0 c7 al⟩ (fun hHeld => ?_)
      clear hK K
      try simp only [Act.put, List.setIfInBounds_toArray, List.set_cons_zero, List.set_cons_succ]
      refine wpAnyH_ready (rs := [7]) (by kernel_rfl) (by simp) (AllReadyH.cons (o := ({ dst := some 17, op := Op.call { callee := Callee.value (Operand.func 92), args := #[Operand.tmp 16], argTypes := #[3] }, type := 67, pos := "ref.go:59", after := #[{ on := 6, ground := Ground.data }, { on := 0, ground := Ground.chain }], guard := none })) rfl (fun K hK => ?_) AllReadyH.nil)
      go_simp
      refine (ND.out _).mono ?_
      rintro e wc ⟨vn, rfl, hvn, hbq⟩
      replace hvn := Lib.hid hvn
      replace hwc := keepB hbq hwc hwl
      replace hwl := Nat.lt_of_lt_of_le hwl hbq.size
      replace hw0 := hw0.trans (Below.mono (by exact ⟨hbq.os, hbq.tape, hbq.output, hbq.size, hbq.block⟩) hw0.size)
      clear hbq
      go_wp2_with fail
      clear hHeld
      refine hK.out _ _ ⟨keepB hw0 c0 al, keepB hw0 c1 al, keepB hw0 c2 al, keepB hw0 c3 al, keepB hw0 c4 al, keepB hw0 c5 al, keepB hw0 c6 al, keepB hw0 c7 al⟩ (fun hHeld => ?_)
      clear hK K
      try simp only [Act.put, List.setIfInBounds_toArray, List.set_cons_zero, List.set_cons_succ]
      refine wpAnyH_ready (rs := [9]) (by kernel_rfl) (by simp) (AllReadyH.cons (o := ({ dst := some 19, op := Op.call { callee := Callee.value (Operand.func 93), args := #[Operand.tmp 18], argTypes := #[43] }, type := 60, pos := "ref.go:59", after := #[{ on := 8, ground := Ground.data }, { on := 7, ground := Ground.chain }], guard := none })) rfl (fun K hK => ?_) AllReadyH.nil)
      go_simp
      refine (MD.out _).mono ?_
      rintro e wc ⟨vi, rfl, hvi, hbq⟩
      replace hvi := Lib.hid hvi
      replace hvn := Lib.hid (hvn.out.below hbq (Nat.le_refl _))
      replace hwc := keepB hbq hwc hwl
      replace hwl := Nat.lt_of_lt_of_le hwl hbq.size
      replace hw0 := hw0.trans (Below.mono (by exact ⟨hbq.os, hbq.tape, hbq.output, hbq.size, hbq.block⟩) hw0.size)
      clear hbq
      go_wp2_with fail
      clear hHeld
      refine hK.out _ _ ⟨keepB hw0 c0 al, keepB hw0 c1 al, keepB hw0 c2 al, keepB hw0 c3 al, keepB hw0 c4 al, keepB hw0 c5 al, keepB hw0 c6 al, keepB hw0 c7 al⟩ (fun hHeld => ?_)
      clear hK K
      try simp only [Act.put, List.setIfInBounds_toArray, List.set_cons_zero, List.set_cons_succ]
      refine wpAnyH_ready (rs := [10]) (by kernel_rfl) (by simp) (AllReadyH.cons (o := ({ dst := some 20, op := Op.call { callee := Callee.value (Operand.func 36), args := #[Operand.tmp 14, Operand.tmp 17, Operand.tmp 19], argTypes := #[9, 67, 60] }, type := 9, pos := "ref.go:59", after := #[{ on := 4, ground := Ground.data }, { on := 7, ground := Ground.data }, { on := 9, ground := Ground.data }, { on := 9, ground := Ground.chain }], guard := none })) rfl (fun K hK => ?_) AllReadyH.nil)
      go_simp
      refine (RL.out _ _ _ hvn.out hvi.out).mono ?_
      rintro e wc ⟨rfl, hbq⟩
      replace hw0 := hw0.trans (Below.mono (by exact ⟨hbq.os, hbq.tape, hbq.output, hbq.size, hbq.block⟩) hw0.size)
      clear hbq
      go_wp2_with fail
      clear hHeld
      refine hK.out _ _ ⟨keepB hw0 c0 al, keepB hw0 c1 al, keepB hw0 c2 al, keepB hw0 c3 al, keepB hw0 c4 al, keepB hw0 c5 al, keepB hw0 c6 al, keepB hw0 c7 al⟩ (fun hHeld => ?_)
      clear hK K
      try simp only [Act.put, List.setIfInBounds_toArray, List.set_cons_zero, List.set_cons_succ]
      refine wpAnyH_take (i := 11) (oi := ({ dst := some 2, op := Op.assign (Operand.tmp 20), type := 9, pos := "ref.go:59", after := #[{ on := 10, ground := Ground.data }, { on := 10, ground := Ground.chain }, { on := 0, ground := Ground.phase }, { on := 1, ground := Ground.phase }, { on := 2, ground := Ground.phase }, { on := 3, ground := Ground.phase }, { on := 4, ground := Ground.phase }, { on := 5, ground := Ground.phase }, { on := 6, ground := Ground.phase }, { on := 7, ground := Ground.phase }, { on := 8, ground := Ground.phase }, { on := 9, ground := Ground.phase }, { on := 10, ground := Ground.phase }], guard := none })) (v := (.string (strL (rowL (kindW (q : Int)) (namesW (q : Int)) NS)))) rfl (by kernel_rfl) (by kernel_rfl) (by kernel_rfl) (fun _ _ _ h => h) (Or.inl ⟨by rfl, ?_⟩) (by assumption) ?_
      · (intro w hSw; (try dsimp only at hSw); go_simp)
      try simp only [Act.put, List.setIfInBounds_toArray, List.set_cons_zero, List.set_cons_succ]
      refine wpAnyH_take (i := 12) (oi := ({ dst := some 3, op := Op.assign (Operand.const (Value.int IntKind.i64 0)), type := 27, pos := "ref.go:59", after := #[{ on := 11, ground := Ground.chain }, { on := 0, ground := Ground.phase }, { on := 1, ground := Ground.phase }, { on := 2, ground := Ground.phase }, { on := 3, ground := Ground.phase }, { on := 4, ground := Ground.phase }, { on := 5, ground := Ground.phase }, { on := 6, ground := Ground.phase }, { on := 7, ground := Ground.phase }, { on := 8, ground := Ground.phase }, { on := 9, ground := Ground.phase }, { on := 10, ground := Ground.phase }, { on := 11, ground := Ground.phase }], guard := none })) (v := (.int .i64 0)) rfl (by kernel_rfl) (by kernel_rfl) (by kernel_rfl) (fun _ _ _ h => h) (Or.inl ⟨by rfl, ?_⟩) (by assumption) ?_
      · (intro w hSw; (try dsimp only at hSw); go_simp)
      try simp only [Act.put, List.setIfInBounds_toArray, List.set_cons_zero, List.set_cons_succ]
      refine wpAnyH_done (by kernel_rfl) ?_ _
      clear hHeld
      go_wp2_with fail
      go_ret2
      exact ⟨rfl, HB1.out.trans (hw0.mono (by have := HB1.out.size; have := HN0.out; omega))⟩
    · go_simp
      refine (ND.out _).mono ?_
      rintro e wc ⟨vn, rfl, hvn, hbq⟩
      replace hvn := Lib.hid hvn
      replace hwc := keepB hbq hwc hwl
      replace hwl := Nat.lt_of_lt_of_le hwl hbq.size
      replace hw0 := hw0.trans (Below.mono (by exact ⟨hbq.os, hbq.tape, hbq.output, hbq.size, hbq.block⟩) hw0.size)
      clear hbq
      go_wp2_with fail
      clear hHeld
      refine hK.out _ _ ⟨keepB hw0 c0 al, keepB hw0 c1 al, keepB hw0 c2 al, keepB hw0 c3 al, keepB hw0 c4 al, keepB hw0 c5 al, keepB hw0 c6 al, keepB hw0 c7 al⟩ (fun hHeld => ?_)
      clear hK K
      try simp only [Act.put, List.setIfInBounds_toArray, List.set_cons_zero, List.set_cons_succ]
      refine wpAnyH_ready (rs := [4, 9]) (by kernel_rfl) (by simp) (AllReadyH.cons (o := ({ dst := some 14, op := Op.load 9 (Operand.tmp 13), type := 9, pos := "ref.go:59", after := #[{ on := 3, ground := Ground.data }], guard := none })) rfl (fun K hK => ?_) (AllReadyH.cons (o := ({ dst := some 19, op := Op.call { callee := Callee.value (Operand.func 93), args := #[Operand.tmp 18], argTypes := #[43] }, type := 60, pos := "ref.go:59", after := #[{ on := 8, ground := Ground.data }, { on := 7, ground := Ground.chain }], guard := none })) rfl (fun K hK => ?_) AllReadyH.nil))
      · go_simp
        clear hHeld
        refine hK.out _ _ ⟨keepB hw0 c0 al, keepB hw0 c1 al, keepB hw0 c2 al, keepB hw0 c3 al, keepB hw0 c4 al, keepB hw0 c5 al, keepB hw0 c6 al, keepB hw0 c7 al⟩ (fun hHeld => ?_)
        clear hK K
        try simp only [Act.put, List.setIfInBounds_toArray, List.set_cons_zero, List.set_cons_succ]
        refine wpAnyH_ready (rs := [9]) (by kernel_rfl) (by simp) (AllReadyH.cons (o := ({ dst := some 19, op := Op.call { callee := Callee.value (Operand.func 93), args := #[Operand.tmp 18], argTypes := #[43] }, type := 60, pos := "ref.go:59", after := #[{ on := 8, ground := Ground.data }, { on := 7, ground := Ground.chain }], guard := none })) rfl (fun K hK => ?_) AllReadyH.nil)
        go_simp
        refine (MD.out _).mono ?_
        rintro e wc ⟨vi, rfl, hvi, hbq⟩
        replace hvi := Lib.hid hvi
        replace hvn := Lib.hid (hvn.out.below hbq (Nat.le_refl _))
        replace hwc := keepB hbq hwc hwl
        replace hwl := Nat.lt_of_lt_of_le hwl hbq.size
        replace hw0 := hw0.trans (Below.mono (by exact ⟨hbq.os, hbq.tape, hbq.output, hbq.size, hbq.block⟩) hw0.size)
        clear hbq
        go_wp2_with fail
        clear hHeld
        refine hK.out _ _ ⟨keepB hw0 c0 al, keepB hw0 c1 al, keepB hw0 c2 al, keepB hw0 c3 al, keepB hw0 c4 al, keepB hw0 c5 al, keepB hw0 c6 al, keepB hw0 c7 al⟩ (fun hHeld => ?_)
        clear hK K
        try simp only [Act.put, List.setIfInBounds_toArray, List.set_cons_zero, List.set_cons_succ]
        refine wpAnyH_ready (rs := [10]) (by kernel_rfl) (by simp) (AllReadyH.cons (o := ({ dst := some 20, op := Op.call { callee := Callee.value (Operand.func 36), args := #[Operand.tmp 14, Operand.tmp 17, Operand.tmp 19], argTypes := #[9, 67, 60] }, type := 9, pos := "ref.go:59", after := #[{ on := 4, ground := Ground.data }, { on := 7, ground := Ground.data }, { on := 9, ground := Ground.data }, { on := 9, ground := Ground.chain }], guard := none })) rfl (fun K hK => ?_) AllReadyH.nil)
        go_simp
        refine (RL.out _ _ _ hvn.out hvi.out).mono ?_
        rintro e wc ⟨rfl, hbq⟩
        replace hw0 := hw0.trans (Below.mono (by exact ⟨hbq.os, hbq.tape, hbq.output, hbq.size, hbq.block⟩) hw0.size)
        clear hbq
        go_wp2_with fail
        clear hHeld
        refine hK.out _ _ ⟨keepB hw0 c0 al, keepB hw0 c1 al, keepB hw0 c2 al, keepB hw0 c3 al, keepB hw0 c4 al, keepB hw0 c5 al, keepB hw0 c6 al, keepB hw0 c7 al⟩ (fun hHeld => ?_)
        clear hK K
        try simp only [Act.put, List.setIfInBounds_toArray, List.set_cons_zero, List.set_cons_succ]
        refine wpAnyH_take (i := 11) (oi := ({ dst := some 2, op := Op.assign (Operand.tmp 20), type := 9, pos := "ref.go:59", after := #[{ on := 10, ground := Ground.data }, { on := 10, ground := Ground.chain }, { on := 0, ground := Ground.phase }, { on := 1, ground := Ground.phase }, { on := 2, ground := Ground.phase }, { on := 3, ground := Ground.phase }, { on := 4, ground := Ground.phase }, { on := 5, ground := Ground.phase }, { on := 6, ground := Ground.phase }, { on := 7, ground := Ground.phase }, { on := 8, ground := Ground.phase }, { on := 9, ground := Ground.phase }, { on := 10, ground := Ground.phase }], guard := none })) (v := (.string (strL (rowL (kindW (q : Int)) (namesW (q : Int)) NS)))) rfl (by kernel_rfl) (by kernel_rfl) (by kernel_rfl) (fun _ _ _ h => h) (Or.inl ⟨by rfl, ?_⟩) (by assumption) ?_
        · (intro w hSw; (try dsimp only at hSw); go_simp)
        try simp only [Act.put, List.setIfInBounds_toArray, List.set_cons_zero, List.set_cons_succ]
        refine wpAnyH_take (i := 12) (oi := ({ dst := some 3, op := Op.assign (Operand.const (Value.int IntKind.i64 0)), type := 27, pos := "ref.go:59", after := #[{ on := 11, ground := Ground.chain }, { on := 0, ground := Ground.phase }, { on := 1, ground := Ground.phase }, { on := 2, ground := Ground.phase }, { on := 3, ground := Ground.phase }, { on := 4, ground := Ground.phase }, { on := 5, ground := Ground.phase }, { on := 6, ground := Ground.phase }, { on := 7, ground := Ground.phase }, { on := 8, ground := Ground.phase }, { on := 9, ground := Ground.phase }, { on := 10, ground := Ground.phase }, { on := 11, ground := Ground.phase }], guard := none })) (v := (.int .i64 0)) rfl (by kernel_rfl) (by kernel_rfl) (by kernel_rfl) (fun _ _ _ h => h) (Or.inl ⟨by rfl, ?_⟩) (by assumption) ?_
        · (intro w hSw; (try dsimp only at hSw); go_simp)
        try simp only [Act.put, List.setIfInBounds_toArray, List.set_cons_zero, List.set_cons_succ]
        refine wpAnyH_done (by kernel_rfl) ?_ _
        clear hHeld
        go_wp2_with fail
        go_ret2
        exact ⟨rfl, HB1.out.trans (hw0.mono (by have := HB1.out.size; have := HN0.out; omega))⟩
      · go_simp
        refine (MD.out _).mono ?_
        rintro e wc ⟨vi, rfl, hvi, hbq⟩
        replace hvi := Lib.hid hvi
        replace hvn := Lib.hid (hvn.out.below hbq (Nat.le_refl _))
        replace hwc := keepB hbq hwc hwl
        replace hwl := Nat.lt_of_lt_of_le hwl hbq.size
        replace hw0 := hw0.trans (Below.mono (by exact ⟨hbq.os, hbq.tape, hbq.output, hbq.size, hbq.block⟩) hw0.size)
        clear hbq
        go_wp2_with fail
        clear hHeld
        refine hK.out _ _ ⟨keepB hw0 c0 al, keepB hw0 c1 al, keepB hw0 c2 al, keepB hw0 c3 al, keepB hw0 c4 al, keepB hw0 c5 al, keepB hw0 c6 al, keepB hw0 c7 al⟩ (fun hHeld => ?_)
        clear hK K
        try simp only [Act.put, List.setIfInBounds_toArray, List.set_cons_zero, List.set_cons_succ]
        refine wpAnyH_ready (rs := [4]) (by kernel_rfl) (by simp) (AllReadyH.cons (o := ({ dst := some 14, op := Op.load 9 (Operand.tmp 13), type := 9, pos := "ref.go:59", after := #[{ on := 3, ground := Ground.data }], guard := none })) rfl (fun K hK => ?_) AllReadyH.nil)
        go_simp
        clear hHeld
        refine hK.out _ _ ⟨keepB hw0 c0 al, keepB hw0 c1 al, keepB hw0 c2 al, keepB hw0 c3 al, keepB hw0 c4 al, keepB hw0 c5 al, keepB hw0 c6 al, keepB hw0 c7 al⟩ (fun hHeld => ?_)
        clear hK K
        try simp only [Act.put, List.setIfInBounds_toArray, List.set_cons_zero, List.set_cons_succ]
        refine wpAnyH_ready (rs := [10]) (by kernel_rfl) (by simp) (AllReadyH.cons (o := ({ dst := some 20, op := Op.call { callee := Callee.value (Operand.func 36), args := #[Operand.tmp 14, Operand.tmp 17, Operand.tmp 19], argTypes := #[9, 67, 60] }, type := 9, pos := "ref.go:59", after := #[{ on := 4, ground := Ground.data }, { on := 7, ground := Ground.data }, { on := 9, ground := Ground.data }, { on := 9, ground := Ground.chain }], guard := none })) rfl (fun K hK => ?_) AllReadyH.nil)
        go_simp
        refine (RL.out _ _ _ hvn.out hvi.out).mono ?_
        rintro e wc ⟨rfl, hbq⟩
        replace hw0 := hw0.trans (Below.mono (by exact ⟨hbq.os, hbq.tape, hbq.output, hbq.size, hbq.block⟩) hw0.size)
        clear hbq
        go_wp2_with fail
        clear hHeld
        refine hK.out _ _ ⟨keepB hw0 c0 al, keepB hw0 c1 al, keepB hw0 c2 al, keepB hw0 c3 al, keepB hw0 c4 al, keepB hw0 c5 al, keepB hw0 c6 al, keepB hw0 c7 al⟩ (fun hHeld => ?_)
        clear hK K
        try simp only [Act.put, List.setIfInBounds_toArray, List.set_cons_zero, List.set_cons_succ]
        refine wpAnyH_take (i := 11) (oi := ({ dst := some 2, op := Op.assign (Operand.tmp 20), type := 9, pos := "ref.go:59", after := #[{ on := 10, ground := Ground.data }, { on := 10, ground := Ground.chain }, { on := 0, ground := Ground.phase }, { on := 1, ground := Ground.phase }, { on := 2, ground := Ground.phase }, { on := 3, ground := Ground.phase }, { on := 4, ground := Ground.phase }, { on := 5, ground := Ground.phase }, { on := 6, ground := Ground.phase }, { on := 7, ground := Ground.phase }, { on := 8, ground := Ground.phase }, { on := 9, ground := Ground.phase }, { on := 10, ground := Ground.phase }], guard := none })) (v := (.string (strL (rowL (kindW (q : Int)) (namesW (q : Int)) NS)))) rfl (by kernel_rfl) (by kernel_rfl) (by kernel_rfl) (fun _ _ _ h => h) (Or.inl ⟨by rfl, ?_⟩) (by assumption) ?_
        · (intro w hSw; (try dsimp only at hSw); go_simp)
        try simp only [Act.put, List.setIfInBounds_toArray, List.set_cons_zero, List.set_cons_succ]
        refine wpAnyH_take (i := 12) (oi := ({ dst := some 3, op := Op.assign (Operand.const (Value.int IntKind.i64 0)), type := 27, pos := "ref.go:59", after := #[{ on := 11, ground := Ground.chain }, { on := 0, ground := Ground.phase }, { on := 1, ground := Ground.phase }, { on := 2, ground := Ground.phase }, { on := 3, ground := Ground.phase }, { on := 4, ground := Ground.phase }, { on := 5, ground := Ground.phase }, { on := 6, ground := Ground.phase }, { on := 7, ground := Ground.phase }, { on := 8, ground := Ground.phase }, { on := 9, ground := Ground.phase }, { on := 10, ground := Ground.phase }, { on := 11, ground := Ground.phase }], guard := none })) (v := (.int .i64 0)) rfl (by kernel_rfl) (by kernel_rfl) (by kernel_rfl) (fun _ _ _ h => h) (Or.inl ⟨by rfl, ?_⟩) (by assumption) ?_
        · (intro w hSw; (try dsimp only at hSw); go_simp)
        try simp only [Act.put, List.setIfInBounds_toArray, List.set_cons_zero, List.set_cons_succ]
        refine wpAnyH_done (by kernel_rfl) ?_ _
        clear hHeld
        go_wp2_with fail
        go_ret2
        exact ⟨rfl, HB1.out.trans (hw0.mono (by have := HB1.out.size; have := HN0.out; omega))⟩
  · have hR := HLI2.out hz0
    obtain rfl : LR1 = [] := (Prod.mk.inj hR).1
    obtain rfl : LR2 = CK := (Prod.mk.inj hR).2
    have hne : (LR2 == 0) = false := by simp [hz0]
    have hne2 : (LR2 != 0) = true := by simp [hz0]
    clear hR HLI HLI2
    go_wp2_with fail
    go_ret2
    exact ⟨rfl, HB1.out⟩
end Go.Proofs.YtanihdpgblkeaaaGreatDoor
