/-
  The error of a message (the reference of reeve's layer 35): the walk.
-/
import Derived.Test.YtanihdpgblkeaaaGreatDoorMsgRefPure
namespace Go.Proofs.YtanihdpgblkeaaaGreatDoor
open Go.RowKit
set_option linter.unusedVariables false
set_option linter.unusedSimpArgs false

/-- May what a letter names be? -/
def okM (c : UInt8) (l : List Int) : Bool :=
  if c = 69 then bndM 3 (fld l 3) else if c = 73 then bndM 4 (fld l 4) else if c = 74 then bndM 5 (fld l 5) else if c = 84 then bndM 6 (fld l 6) else if c = 80 then bndM 7 (fld l 7) else if c = 67 then bndM 8 (fld l 8) else resB [fld l 9, fld l 10, fld l 11]
theorem pure_zero (l : List Int) (h : offsM (fld l 0) ≠ []) (hp : pureM l = l) (o : Nat) (ho : 3 ≤ o) (hn : o ∉ offsM (fld l 0)) : fld l o = 0 := by
  have h1 : fld (pureM l) o = fld l o := by rw [hp]
  rw [← h1]
  unfold pureM
  rw [if_neg h, fld_lay_out _ _ _ _ hn]
  exact fld_bare3 _ _ _ _ ho
theorem bndM_res (o : Nat) (h : 9 ≤ o) (n : Int) : bndM o n = true := by
  unfold bndM
  rw [if_neg (by omega), if_neg (by omega), if_neg (by omega), if_neg (by omega), if_neg (by omega)]
theorem rightM_letters (l : List Int) (h : offsM (fld l 0) ≠ []) (hp : pureM l = l) : rightM l = (nmM (fld l 0)).all (fun c => okM c l) := by
  have hz := pure_zero l h hp
  have hr : 9 ∉ offsM (fld l 0) → 10 ∉ offsM (fld l 0) → 11 ∉ offsM (fld l 0) → resB [fld l 9, fld l 10, fld l 11] = true := by
    intro a b c
    rw [hz 9 (by decide) a, hz 10 (by decide) b, hz 11 (by decide) c]
    decide
  have b9 := bndM_res 9 (by decide) (fld l 9)
  have b10 := bndM_res 10 (by decide) (fld l 10)
  have b11 := bndM_res 11 (by decide) (fld l 11)
  unfold rightM
  rcases mkind_cases (fld l 0) with e | e | e | e | e | e | e | e | e
  · rw [e]; simp [offsM, nmM, okM, b9, b10, b11, Bool.and_assoc]
  · rw [hr (by rw [e]; decide) (by rw [e]; decide) (by rw [e]; decide), e]; simp [offsM, nmM, okM, Bool.and_assoc]
  · rw [hr (by rw [e]; decide) (by rw [e]; decide) (by rw [e]; decide), e]; simp [offsM, nmM, okM, Bool.and_assoc]
  · rw [hr (by rw [e]; decide) (by rw [e]; decide) (by rw [e]; decide), e]; simp [offsM, nmM, okM, Bool.and_assoc]
  · rw [hr (by rw [e]; decide) (by rw [e]; decide) (by rw [e]; decide), e]; simp [offsM, nmM, okM, Bool.and_assoc]
  · rw [e]; simp [offsM, nmM, okM, b9, b10, b11, Bool.and_assoc]
  · rw [hr (by rw [e]; decide) (by rw [e]; decide) (by rw [e]; decide), e]; simp [offsM, nmM, okM, Bool.and_assoc]
  · rw [hr (by rw [e]; decide) (by rw [e]; decide) (by rw [e]; decide), e]; simp [offsM, nmM, okM, Bool.and_assoc]
  · exact absurd (offsM_none e) h
theorem chk_bad (l : List Int) (h : offsM (fld l 0) ≠ []) (hb : pureM l ≠ l ∨ (placeI (fld l 1), placeI (fld l 2)) ≠ waysF (fld l 0)) : checkM l = 1 := by
  unfold checkM
  rw [if_neg h, if_pos (by rcases hb with h | h; exact .inl h; exact .inr (.inl h))]
theorem chk_letters (l : List Int) (h : offsM (fld l 0) ≠ []) (hp : pureM l = l) (hw : (placeI (fld l 1), placeI (fld l 2)) = waysF (fld l 0)) : checkM l = if (nmM (fld l 0)).all (fun c => okM c l) = true then 0 else 1 := by
  unfold checkM
  rw [if_neg h, rightM_letters l h hp]
  by_cases ha : (nmM (fld l 0)).all (fun c => okM c l) = true
  · rw [if_pos ha, if_neg]
    rintro (h1 | h1 | h1)
    · exact h1 hp
    · exact h1 hw
    · rw [ha] at h1; cases h1
  · rw [if_neg ha, if_pos]
    exact .inr (.inr (by simpa using ha))
set_option maxRecDepth 100000 in
set_option maxHeartbeats 6400000 in
theorem ref35_check (l : List Int) (hl : l.length = 12) (w : World) :
    Calls Tryz.prog 29 #[.agg (cellsI l)] w fun e w' => e = .returned (.int .i64 (checkM l)) ∧ Below w.heap.size w w' := by
  have HP := ref35_pure l hl
  have hpl := pureM_length l
  have hneq := neq_msg (pureM l) l hpl hl
  have hno : offsM (fld l 0) = [] → checkM l = 5 := by intro h; unfold checkM; rw [if_pos h]
  have hbad := chk_bad l
  have hlet := chk_letters l
  have hends := fun (h : offsM (fld l 0) ≠ []) w => ref35_ends (fld l 0) (offsM_kind h) w
  have PF := fun w => ref35_place (fld l 1) w
  have PT := fun w => ref35_place (fld l 2) w
  have L69 := fun w => ref35_in (fld l 3) 1 4294967295 w
  have L73 := fun w => ref35_in (fld l 4) 1 2147483647 w
  have L74 := fun w => ref35_in (fld l 5) 1 2147483647 w
  have L84 := fun w => ref35_in (fld l 6) 0 1099511627776 w
  have L80 := fun w => ref35_in (fld l 7) 0 99 w
  have L67 := fun w => ref35_in (fld l 8) 0 14 w
  have L82 := fun w => ref08_right [fld l 9, fld l 10, fld l 11] rfl w
  have o69 : okM 69 l = inR (fld l 3) 1 4294967295 := rfl
  have o73 : okM 73 l = inR (fld l 4) 1 2147483647 := rfl
  have o74 : okM 74 l = inR (fld l 5) 1 2147483647 := rfl
  have o84 : okM 84 l = inR (fld l 6) 0 1099511627776 := rfl
  have o80 : okM 80 l = inR (fld l 7) 0 99 := rfl
  have o67 : okM 67 l = inR (fld l 8) 0 14 := rfl
  have o82 : okM 82 l = resB [fld l 9, fld l 10, fld l 11] := rfl
  rw [← o69] at L69
  rw [← o73] at L73
  rw [← o74] at L74
  rw [← o84] at L84
  rw [← o80] at L80
  rw [← o67] at L67
  rw [← o82] at L82
  clear o69 o73 o74 o84 o80 o67 o82
  obtain ⟨CK, hCK⟩ : ∃ c, checkM l = c := ⟨_, rfl⟩
  rw [hCK] at hno hbad hlet ⊢
  clear hCK
  obtain ⟨PC, hPC⟩ : ∃ C, cellsI (pureM l) = C := ⟨_, rfl⟩
  rw [hPC] at HP hneq
  clear hPC
  obtain ⟨pq, hq, hqi⟩ : ∃ q : Bool, decide (pureM l = l) = q ∧ (pureM l = l ↔ q = true) := ⟨_, rfl, by simp⟩
  rw [hq] at hneq
  simp only [ne_eq, hqi] at hbad hlet
  clear hq hqi hpl
  obtain ⟨OK, hOK⟩ : ∃ f : UInt8 → Bool, (fun c => okM c l) = f := ⟨_, rfl⟩
  have hOKc : ∀ c, okM c l = OK c := fun c => by rw [← hOK]
  rw [hOK] at hlet
  rw [hOKc] at L69 L73 L74 L84 L80 L67 L82
  clear hOK hOKc
  obtain ⟨a0, a1, a2, a3, a4, a5, a6, a7, a8, a9, a10, a11, rfl⟩ := twelve_of hl
  clear hl
  have hf0 : fld [a0, a1, a2, a3, a4, a5, a6, a7, a8, a9, a10, a11] 0 = a0 := rfl
  have hf1 : fld [a0, a1, a2, a3, a4, a5, a6, a7, a8, a9, a10, a11] 1 = a1 := rfl
  have hf2 : fld [a0, a1, a2, a3, a4, a5, a6, a7, a8, a9, a10, a11] 2 = a2 := rfl
  rw [hf0, hf1, hf2] at hbad hlet
  rw [hf0] at hno hends
  rw [hf1] at PF
  rw [hf2] at PT
  clear hf0 hf1 hf2
  generalize placeI a1 = pf at hbad hlet PF
  generalize placeI a2 = pt at hbad hlet PT
  generalize waysF a0 = WF at hbad hlet hends
  obtain ⟨wf, wt⟩ := WF
  simp only [Prod.mk.injEq, not_and] at hbad hlet hends
  have hcell : cellsI [a0, a1, a2, a3, a4, a5, a6, a7, a8, a9, a10, a11] = #[.int .i64 a0, .int .i64 a1, .int .i64 a2, .int .i64 a3, .int .i64 a4, .int .i64 a5, .int .i64 a6, .int .i64 a7, .int .i64 a8, .int .i64 a9, .int .i64 a10, .int .i64 a11] := rfl
  rw [hcell] at HP hneq ⊢
  clear hcell
  have L69 : ∀ w, Calls Tryz.prog 66 #[.int .i64 a3, .int .i64 1, .int .i64 4294967295] w fun e w' => e = .returned (.bool (OK 69)) ∧ w = w' := L69
  have L73 : ∀ w, Calls Tryz.prog 66 #[.int .i64 a4, .int .i64 1, .int .i64 2147483647] w fun e w' => e = .returned (.bool (OK 73)) ∧ w = w' := L73
  have L74 : ∀ w, Calls Tryz.prog 66 #[.int .i64 a5, .int .i64 1, .int .i64 2147483647] w fun e w' => e = .returned (.bool (OK 74)) ∧ w = w' := L74
  have L84 : ∀ w, Calls Tryz.prog 66 #[.int .i64 a6, .int .i64 0, .int .i64 1099511627776] w fun e w' => e = .returned (.bool (OK 84)) ∧ w = w' := L84
  have L80 : ∀ w, Calls Tryz.prog 66 #[.int .i64 a7, .int .i64 0, .int .i64 99] w fun e w' => e = .returned (.bool (OK 80)) ∧ w = w' := L80
  have L67 : ∀ w, Calls Tryz.prog 66 #[.int .i64 a8, .int .i64 0, .int .i64 14] w fun e w' => e = .returned (.bool (OK 67)) ∧ w = w' := L67
  have L82 : ∀ w : World, Calls Tryz.prog 62 #[.agg #[.int .i64 a9, .int .i64 a10, .int .i64 a11]] w fun e w' => e = .returned (.bool (OK 82)) ∧ Below w.heap.size w w' := L82
  obtain ⟨g, hg⟩ : ∃ g, w.heap.size = g := ⟨_, rfl⟩
  obtain ⟨W, hW⟩ : ∃ W, w.alloc (.cells #[.int .i64 a0, .int .i64 a1, .int .i64 a2, .int .i64 a3, .int .i64 a4, .int .i64 a5, .int .i64 a6, .int .i64 a7, .int .i64 a8, .int .i64 a9, .int .i64 a10, .int .i64 a11] 25) = W := ⟨_, rfl⟩
  have HB : Hid (Blk W g #[.int .i64 a0, .int .i64 a1, .int .i64 a2, .int .i64 a3, .int .i64 a4, .int .i64 a5, .int .i64 a6, .int .i64 a7, .int .i64 a8, .int .i64 a9, .int .i64 a10, .int .i64 a11] 25) := Lib.hid (by rw [← hW, ← hg]; exact Blk.new w _ _)
  have HL : Hid (Below g w W) := Lib.hid (by rw [← hW, ← hg]; exact (Below.refl w.heap.size w).alloc (Nat.le_refl _) _)
  rw [hg]
  have HG := Lib.hid hg
  have HW := Lib.hid hW
  have HNO := Lib.hid hno
  have HBAD := Lib.hid hbad
  have HLET := Lib.hid hlet
  have HENDS := Lib.hid hends
  have HPH := Lib.hid HP
  have HN := Lib.hid hneq
  have PF := Lib.hid PF
  have PT := Lib.hid PT
  have L69 := Lib.hid L69
  have L73 := Lib.hid L73
  have L74 := Lib.hid L74
  have L84 := Lib.hid L84
  have L80 := Lib.hid L80
  have L67 := Lib.hid L67
  have L82 := Lib.hid L82
  clear hW hno hbad hlet hends HP hneq hg
  have c0 := HB.out.cell (i := 0) rfl
  go_enter Tryz.func29, Tryz.ntmps29
  go_upto_region 1 with fail
  rw [HW.out]
  try rw [HG.out]
  clear HW
  go_wp2_with fail
  refine (ref35_names a0 W).mono ?_
  rintro e w1 ⟨rfl, hb1⟩
  have HB1 := Lib.hid (HB.out.below hb1 HB.out.lt)
  have HL1 : Hid (Below g w w1) := Lib.hid (HL.out.trans (hb1.mono (by rw [← HG.out]; exact HL.out.size)))
  clear hb1 c0 HB HL
  by_cases h0 : offsM a0 = []
  · have hn0 : nmM a0 = [] := (nmM_nil a0).2 h0
    rw [hn0]
    have HC5 := Lib.hid (HNO.out h0)
    clear h0 hn0
    have hstr : str [] = ⟨#[]⟩ := rfl
    rw [hstr]
    clear hstr
    go_wp2_with fail
    go_ret
    exact ⟨by rw [HC5.out]; rfl, HL1.out⟩
  have hne : (str (nmM a0)).toList.isEmpty = false := str_empty_ne (fun e => h0 ((nmM_nil a0).1 (str_inj_p (e.trans rfl : str (nmM a0) = str []))))
  have HE := Lib.hid (HENDS.out h0)
  have HBAD := Lib.hid (HBAD.out h0)
  have HLET := Lib.hid (HLET.out h0)
  have hm3 := nmM_length a0
  obtain ⟨m, hm⟩ : ∃ m, (nmM a0).length = m := ⟨_, rfl⟩
  have hsz : (str (nmM a0)).size = m := by rw [str_size, hm]
  have hbyte : ∀ i c, (nmM a0)[i]? = some c → ∀ h : i < (str (nmM a0)).size, (((str (nmM a0))[i]'h).toNat : Int) = (c.toNat : Int) := by
    intro i c hc h
    obtain ⟨hi, e⟩ := List.getElem?_eq_some_iff.1 hc
    show (((nmM a0)[i]'hi).toNat : Int) = _
    rw [e]
  obtain ⟨S, hS⟩ : ∃ S, str (nmM a0) = S := ⟨_, rfl⟩
  rw [hm] at hm3
  rw [hS] at hsz hbyte hne ⊢
  have HM := Lib.hid hm
  have HSZ := Lib.hid hsz
  have HBY := Lib.hid hbyte
  have hm63 : S.size ≤ 3 := by omega
  have d0 := HB1.out.cell (i := 0) rfl
  clear hm hS hbyte h0 HNO HENDS
  go_wp2_with fail
  refine (HE.out _).mono ?_
  rintro e w2 ⟨rfl, hb2⟩
  have HB2 := Lib.hid (HB1.out.below hb2 HB1.out.lt)
  have HL2 : Hid (Below g w w2) := Lib.hid (HL1.out.trans (hb2.mono (by rw [← HG.out]; exact HL1.out.size)))
  clear hb2 HB1 HL1 HE d0
  have hneq := HN.out
  clear HN
  cases pq with
  | false =>
    simp only [Bool.not_false] at hneq
    have HF : Hid (CK = 1) := Lib.hid (HBAD.out (by left; decide))
    go_upto_region 5 with fail
    refine wp_region_held_drew (S := (fun w' => Blk w' g #[.int .i64 a0, .int .i64 a1, .int .i64 a2, .int .i64 a3, .int .i64 a4, .int .i64 a5, .int .i64 a6, .int .i64 a7, .int .i64 a8, .int .i64 a9, .int .i64 a10, .int .i64 a11] 25)) (by kernel_rfl) HB2.out (fun hHeld => ?_)
    refine wpAnyH_take (i := 0) (oi := ({ dst := some 19, op := Op.load 25 (Operand.tmp 1), type := 25, pos := "ref.go:115", after := #[], guard := none })) (v := (.agg #[.int .i64 a0, .int .i64 a1, .int .i64 a2, .int .i64 a3, .int .i64 a4, .int .i64 a5, .int .i64 a6, .int .i64 a7, .int .i64 a8, .int .i64 a9, .int .i64 a10, .int .i64 a11])) rfl (by kernel_rfl) (by kernel_rfl) (by kernel_rfl) (fun _ _ _ h => h) (Or.inl ⟨by rfl, ?_⟩) (by assumption) ?_
    · (intro w hSw; have s0 := hSw.cell (i := 0) rfl; have s1 := hSw.cell (i := 1) rfl; have s2 := hSw.cell (i := 2) rfl; have s3 := hSw.cell (i := 3) rfl; have s4 := hSw.cell (i := 4) rfl; have s5 := hSw.cell (i := 5) rfl; have s6 := hSw.cell (i := 6) rfl; have s7 := hSw.cell (i := 7) rfl; have s8 := hSw.cell (i := 8) rfl; have s9 := hSw.cell (i := 9) rfl; have s10 := hSw.cell (i := 10) rfl; have s11 := hSw.cell (i := 11) rfl; go_simp)
    try simp only [Act.put, List.setIfInBounds_toArray, List.set_cons_zero, List.set_cons_succ]
    refine wpAnyH_take (i := 2) (oi := ({ dst := some 21, op := Op.load 25 (Operand.tmp 1), type := 25, pos := "ref.go:115", after := #[], guard := none })) (v := (.agg #[.int .i64 a0, .int .i64 a1, .int .i64 a2, .int .i64 a3, .int .i64 a4, .int .i64 a5, .int .i64 a6, .int .i64 a7, .int .i64 a8, .int .i64 a9, .int .i64 a10, .int .i64 a11])) rfl (by kernel_rfl) (by kernel_rfl) (by kernel_rfl) (fun _ _ _ h => h) (Or.inl ⟨by rfl, ?_⟩) (by assumption) ?_
    · (intro w hSw; have s0 := hSw.cell (i := 0) rfl; have s1 := hSw.cell (i := 1) rfl; have s2 := hSw.cell (i := 2) rfl; have s3 := hSw.cell (i := 3) rfl; have s4 := hSw.cell (i := 4) rfl; have s5 := hSw.cell (i := 5) rfl; have s6 := hSw.cell (i := 6) rfl; have s7 := hSw.cell (i := 7) rfl; have s8 := hSw.cell (i := 8) rfl; have s9 := hSw.cell (i := 9) rfl; have s10 := hSw.cell (i := 10) rfl; have s11 := hSw.cell (i := 11) rfl; go_simp)
    try simp only [Act.put, List.setIfInBounds_toArray, List.set_cons_zero, List.set_cons_succ]
    refine wpAnyH_ready (rs := [1]) (by kernel_rfl) (by simp) (AllReadyH.cons (o := ({ dst := some 20, op := Op.call { callee := Callee.value (Operand.func 28), args := #[Operand.tmp 19], argTypes := #[25] }, type := 25, pos := "ref.go:115", after := #[{ on := 0, ground := Ground.data }], guard := none })) rfl (fun K hK => ?_) AllReadyH.nil)
    go_simp
    refine (HPH.out _).mono ?_
    rintro e w4 ⟨rfl, hb4⟩
    have hb4 : Below w2.heap.size w2 w4 := ⟨hb4.os, hb4.tape, hb4.output, hb4.size, hb4.block⟩
    have hB4 := HB2.out.below hb4 HB2.out.lt
    go_wp2_with fail
    clear hHeld
    refine hK.out _ _ hB4 (fun hHeld => ?_)
    clear hK K
    try simp only [Act.put, List.setIfInBounds_toArray, List.set_cons_zero, List.set_cons_succ]
    refine wpAnyH_take (i := 3) (oi := ({ dst := some 22, op := Op.binOp BinOp.neq 25 (Operand.tmp 20) (Operand.tmp 21) 25, type := 4, pos := "ref.go:115", after := #[{ on := 1, ground := Ground.data }, { on := 2, ground := Ground.data }], guard := none })) (v := (.bool true)) rfl (by kernel_rfl) (by kernel_rfl) (by kernel_rfl) (fun _ _ _ h => h) (Or.inl ⟨by rfl, ?_⟩) (by assumption) ?_
    · (intro w hSw; have s0 := hSw.cell (i := 0) rfl; have s1 := hSw.cell (i := 1) rfl; have s2 := hSw.cell (i := 2) rfl; have s3 := hSw.cell (i := 3) rfl; have s4 := hSw.cell (i := 4) rfl; have s5 := hSw.cell (i := 5) rfl; have s6 := hSw.cell (i := 6) rfl; have s7 := hSw.cell (i := 7) rfl; have s8 := hSw.cell (i := 8) rfl; have s9 := hSw.cell (i := 9) rfl; have s10 := hSw.cell (i := 10) rfl; have s11 := hSw.cell (i := 11) rfl; go_simp)
    try simp only [Act.put, List.setIfInBounds_toArray, List.set_cons_zero, List.set_cons_succ]
    refine wpAnyH_take (i := 4) (oi := ({ dst := some 23, op := Op.move (Operand.tmp 22), type := 4, pos := "ref.go:115", after := #[{ on := 3, ground := Ground.data }, { on := 1, ground := Ground.chain }], guard := none })) (v := (.bool true)) rfl (by kernel_rfl) (by kernel_rfl) (by kernel_rfl) (fun _ _ _ h => h) (Or.inl ⟨by rfl, ?_⟩) (by assumption) ?_
    · (intro w hSw; have s0 := hSw.cell (i := 0) rfl; have s1 := hSw.cell (i := 1) rfl; have s2 := hSw.cell (i := 2) rfl; have s3 := hSw.cell (i := 3) rfl; have s4 := hSw.cell (i := 4) rfl; have s5 := hSw.cell (i := 5) rfl; have s6 := hSw.cell (i := 6) rfl; have s7 := hSw.cell (i := 7) rfl; have s8 := hSw.cell (i := 8) rfl; have s9 := hSw.cell (i := 9) rfl; have s10 := hSw.cell (i := 10) rfl; have s11 := hSw.cell (i := 11) rfl; go_simp)
    try simp only [Act.put, List.setIfInBounds_toArray, List.set_cons_zero, List.set_cons_succ]
    refine wpAnyH_take (i := 5) (oi := ({ dst := some 24, op := Op.fieldAddr 25 (Operand.tmp 1) 1, type := 0, pos := "ref.go:115", after := #[{ on := 4, ground := Ground.guard }], guard := some (4, false) })) (v := undef) rfl (by kernel_rfl) (by kernel_rfl) (by kernel_rfl) (fun _ _ _ h => h) (Or.inr ⟨by rfl, rfl⟩) (by assumption) ?_
    try simp only [Act.put, List.setIfInBounds_toArray, List.set_cons_zero, List.set_cons_succ]
    refine wpAnyH_take (i := 6) (oi := ({ dst := some 25, op := Op.load 3 (Operand.tmp 24), type := 3, pos := "ref.go:115", after := #[{ on := 5, ground := Ground.data }, { on := 4, ground := Ground.guard }], guard := some (4, false) })) (v := undef) rfl (by kernel_rfl) (by kernel_rfl) (by kernel_rfl) (fun _ _ _ h => h) (Or.inr ⟨by rfl, rfl⟩) (by assumption) ?_
    try simp only [Act.put, List.setIfInBounds_toArray, List.set_cons_zero, List.set_cons_succ]
    refine wpAnyH_take (i := 8) (oi := ({ dst := some 27, op := Op.move (Operand.tmp 4), type := 3, pos := "ref.go:115", after := #[{ on := 4, ground := Ground.guard }], guard := some (4, false) })) (v := undef) rfl (by kernel_rfl) (by kernel_rfl) (by kernel_rfl) (fun _ _ _ h => h) (Or.inr ⟨by rfl, rfl⟩) (by assumption) ?_
    try simp only [Act.put, List.setIfInBounds_toArray, List.set_cons_zero, List.set_cons_succ]
    refine wpAnyH_take (i := 7) (oi := ({ dst := some 26, op := Op.call { callee := Callee.value (Operand.func 65), args := #[Operand.tmp 25], argTypes := #[3] }, type := 3, pos := "ref.go:115", after := #[{ on := 6, ground := Ground.data }, { on := 4, ground := Ground.chain }, { on := 4, ground := Ground.guard }], guard := some (4, false) })) (v := undef) rfl (by kernel_rfl) (by kernel_rfl) (by kernel_rfl) (fun _ _ _ h => h) (Or.inr ⟨by rfl, rfl⟩) (by assumption) ?_
    try simp only [Act.put, List.setIfInBounds_toArray, List.set_cons_zero, List.set_cons_succ]
    refine wpAnyH_take (i := 9) (oi := ({ dst := some 28, op := Op.binOp BinOp.neq 3 (Operand.tmp 26) (Operand.tmp 27) 3, type := 4, pos := "ref.go:115", after := #[{ on := 7, ground := Ground.data }, { on := 8, ground := Ground.data }, { on := 4, ground := Ground.guard }], guard := some (4, false) })) (v := undef) rfl (by kernel_rfl) (by kernel_rfl) (by kernel_rfl) (fun _ _ _ h => h) (Or.inr ⟨by rfl, rfl⟩) (by assumption) ?_
    try simp only [Act.put, List.setIfInBounds_toArray, List.set_cons_zero, List.set_cons_succ]
    refine wpAnyH_take (i := 10) (oi := ({ dst := some 29, op := Op.pick (Operand.tmp 23) (Operand.const (Value.bool true)) (Operand.tmp 28), type := 4, pos := "ref.go:115", after := #[{ on := 4, ground := Ground.data }, { on := 9, ground := Ground.data }], guard := none })) (v := (.bool true)) rfl (by kernel_rfl) (by kernel_rfl) (by kernel_rfl) (fun _ _ _ h => h) (Or.inl ⟨by rfl, ?_⟩) (by assumption) ?_
    · (intro w hSw; have s0 := hSw.cell (i := 0) rfl; have s1 := hSw.cell (i := 1) rfl; have s2 := hSw.cell (i := 2) rfl; have s3 := hSw.cell (i := 3) rfl; have s4 := hSw.cell (i := 4) rfl; have s5 := hSw.cell (i := 5) rfl; have s6 := hSw.cell (i := 6) rfl; have s7 := hSw.cell (i := 7) rfl; have s8 := hSw.cell (i := 8) rfl; have s9 := hSw.cell (i := 9) rfl; have s10 := hSw.cell (i := 10) rfl; have s11 := hSw.cell (i := 11) rfl; go_simp)
    try simp only [Act.put, List.setIfInBounds_toArray, List.set_cons_zero, List.set_cons_succ]
    refine wpAnyH_take (i := 11) (oi := ({ dst := some 30, op := Op.move (Operand.tmp 29), type := 4, pos := "ref.go:115", after := #[{ on := 10, ground := Ground.data }, { on := 7, ground := Ground.chain }], guard := none })) (v := (.bool true)) rfl (by kernel_rfl) (by kernel_rfl) (by kernel_rfl) (fun _ _ _ h => h) (Or.inl ⟨by rfl, ?_⟩) (by assumption) ?_
    · (intro w hSw; have s0 := hSw.cell (i := 0) rfl; have s1 := hSw.cell (i := 1) rfl; have s2 := hSw.cell (i := 2) rfl; have s3 := hSw.cell (i := 3) rfl; have s4 := hSw.cell (i := 4) rfl; have s5 := hSw.cell (i := 5) rfl; have s6 := hSw.cell (i := 6) rfl; have s7 := hSw.cell (i := 7) rfl; have s8 := hSw.cell (i := 8) rfl; have s9 := hSw.cell (i := 9) rfl; have s10 := hSw.cell (i := 10) rfl; have s11 := hSw.cell (i := 11) rfl; go_simp)
    try simp only [Act.put, List.setIfInBounds_toArray, List.set_cons_zero, List.set_cons_succ]
    refine wpAnyH_take (i := 12) (oi := ({ dst := some 31, op := Op.fieldAddr 25 (Operand.tmp 1) 2, type := 0, pos := "ref.go:115", after := #[{ on := 11, ground := Ground.guard }], guard := some (11, false) })) (v := undef) rfl (by kernel_rfl) (by kernel_rfl) (by kernel_rfl) (fun _ _ _ h => h) (Or.inr ⟨by rfl, rfl⟩) (by assumption) ?_
    try simp only [Act.put, List.setIfInBounds_toArray, List.set_cons_zero, List.set_cons_succ]
    refine wpAnyH_take (i := 13) (oi := ({ dst := some 32, op := Op.load 3 (Operand.tmp 31), type := 3, pos := "ref.go:115", after := #[{ on := 12, ground := Ground.data }, { on := 11, ground := Ground.guard }], guard := some (11, false) })) (v := undef) rfl (by kernel_rfl) (by kernel_rfl) (by kernel_rfl) (fun _ _ _ h => h) (Or.inr ⟨by rfl, rfl⟩) (by assumption) ?_
    try simp only [Act.put, List.setIfInBounds_toArray, List.set_cons_zero, List.set_cons_succ]
    refine wpAnyH_take (i := 15) (oi := ({ dst := some 34, op := Op.move (Operand.tmp 5), type := 3, pos := "ref.go:115", after := #[{ on := 11, ground := Ground.guard }], guard := some (11, false) })) (v := undef) rfl (by kernel_rfl) (by kernel_rfl) (by kernel_rfl) (fun _ _ _ h => h) (Or.inr ⟨by rfl, rfl⟩) (by assumption) ?_
    try simp only [Act.put, List.setIfInBounds_toArray, List.set_cons_zero, List.set_cons_succ]
    refine wpAnyH_take (i := 14) (oi := ({ dst := some 33, op := Op.call { callee := Callee.value (Operand.func 65), args := #[Operand.tmp 32], argTypes := #[3] }, type := 3, pos := "ref.go:115", after := #[{ on := 13, ground := Ground.data }, { on := 11, ground := Ground.chain }, { on := 11, ground := Ground.guard }], guard := some (11, false) })) (v := undef) rfl (by kernel_rfl) (by kernel_rfl) (by kernel_rfl) (fun _ _ _ h => h) (Or.inr ⟨by rfl, rfl⟩) (by assumption) ?_
    try simp only [Act.put, List.setIfInBounds_toArray, List.set_cons_zero, List.set_cons_succ]
    refine wpAnyH_take (i := 16) (oi := ({ dst := some 35, op := Op.binOp BinOp.neq 3 (Operand.tmp 33) (Operand.tmp 34) 3, type := 4, pos := "ref.go:115", after := #[{ on := 14, ground := Ground.data }, { on := 15, ground := Ground.data }, { on := 11, ground := Ground.guard }], guard := some (11, false) })) (v := undef) rfl (by kernel_rfl) (by kernel_rfl) (by kernel_rfl) (fun _ _ _ h => h) (Or.inr ⟨by rfl, rfl⟩) (by assumption) ?_
    try simp only [Act.put, List.setIfInBounds_toArray, List.set_cons_zero, List.set_cons_succ]
    refine wpAnyH_take (i := 17) (oi := ({ dst := some 36, op := Op.pick (Operand.tmp 30) (Operand.const (Value.bool true)) (Operand.tmp 35), type := 4, pos := "ref.go:115", after := #[{ on := 11, ground := Ground.data }, { on := 16, ground := Ground.data }], guard := none })) (v := (.bool true)) rfl (by kernel_rfl) (by kernel_rfl) (by kernel_rfl) (fun _ _ _ h => h) (Or.inl ⟨by rfl, ?_⟩) (by assumption) ?_
    · (intro w hSw; have s0 := hSw.cell (i := 0) rfl; have s1 := hSw.cell (i := 1) rfl; have s2 := hSw.cell (i := 2) rfl; have s3 := hSw.cell (i := 3) rfl; have s4 := hSw.cell (i := 4) rfl; have s5 := hSw.cell (i := 5) rfl; have s6 := hSw.cell (i := 6) rfl; have s7 := hSw.cell (i := 7) rfl; have s8 := hSw.cell (i := 8) rfl; have s9 := hSw.cell (i := 9) rfl; have s10 := hSw.cell (i := 10) rfl; have s11 := hSw.cell (i := 11) rfl; go_simp)
    try simp only [Act.put, List.setIfInBounds_toArray, List.set_cons_zero, List.set_cons_succ]
    refine wpAnyH_done (by kernel_rfl) ?_ _
    clear hHeld
    clear hB4
    have HL4 : Hid (Below g w w4) := Lib.hid (HL2.out.trans (hb4.mono (by rw [← HG.out]; exact HL2.out.size)))
    clear hb4
    go_wp2_with fail
    go_ret
    exact ⟨by rw [HF.out]; rfl, HL4.out⟩
  | true =>
    simp only [Bool.not_true] at hneq
    by_cases hpf : pf = wf
    case neg =>
      have HF : Hid (CK = 1) := Lib.hid (HBAD.out (by right; intro h; exact absurd h hpf))
      have hne1 : (pf == wf) = false := by rw [beq_eq_false_iff_ne]; exact hpf
      go_upto_region 5 with fail
      refine wp_region_held_drew (S := (fun w' => Blk w' g #[.int .i64 a0, .int .i64 a1, .int .i64 a2, .int .i64 a3, .int .i64 a4, .int .i64 a5, .int .i64 a6, .int .i64 a7, .int .i64 a8, .int .i64 a9, .int .i64 a10, .int .i64 a11] 25)) (by kernel_rfl) HB2.out (fun hHeld => ?_)
      refine wpAnyH_take (i := 0) (oi := ({ dst := some 19, op := Op.load 25 (Operand.tmp 1), type := 25, pos := "ref.go:115", after := #[], guard := none })) (v := (.agg #[.int .i64 a0, .int .i64 a1, .int .i64 a2, .int .i64 a3, .int .i64 a4, .int .i64 a5, .int .i64 a6, .int .i64 a7, .int .i64 a8, .int .i64 a9, .int .i64 a10, .int .i64 a11])) rfl (by kernel_rfl) (by kernel_rfl) (by kernel_rfl) (fun _ _ _ h => h) (Or.inl ⟨by rfl, ?_⟩) (by assumption) ?_
      · (intro w hSw; have s0 := hSw.cell (i := 0) rfl; have s1 := hSw.cell (i := 1) rfl; have s2 := hSw.cell (i := 2) rfl; have s3 := hSw.cell (i := 3) rfl; have s4 := hSw.cell (i := 4) rfl; have s5 := hSw.cell (i := 5) rfl; have s6 := hSw.cell (i := 6) rfl; have s7 := hSw.cell (i := 7) rfl; have s8 := hSw.cell (i := 8) rfl; have s9 := hSw.cell (i := 9) rfl; have s10 := hSw.cell (i := 10) rfl; have s11 := hSw.cell (i := 11) rfl; go_simp)
      try simp only [Act.put, List.setIfInBounds_toArray, List.set_cons_zero, List.set_cons_succ]
      refine wpAnyH_take (i := 2) (oi := ({ dst := some 21, op := Op.load 25 (Operand.tmp 1), type := 25, pos := "ref.go:115", after := #[], guard := none })) (v := (.agg #[.int .i64 a0, .int .i64 a1, .int .i64 a2, .int .i64 a3, .int .i64 a4, .int .i64 a5, .int .i64 a6, .int .i64 a7, .int .i64 a8, .int .i64 a9, .int .i64 a10, .int .i64 a11])) rfl (by kernel_rfl) (by kernel_rfl) (by kernel_rfl) (fun _ _ _ h => h) (Or.inl ⟨by rfl, ?_⟩) (by assumption) ?_
      · (intro w hSw; have s0 := hSw.cell (i := 0) rfl; have s1 := hSw.cell (i := 1) rfl; have s2 := hSw.cell (i := 2) rfl; have s3 := hSw.cell (i := 3) rfl; have s4 := hSw.cell (i := 4) rfl; have s5 := hSw.cell (i := 5) rfl; have s6 := hSw.cell (i := 6) rfl; have s7 := hSw.cell (i := 7) rfl; have s8 := hSw.cell (i := 8) rfl; have s9 := hSw.cell (i := 9) rfl; have s10 := hSw.cell (i := 10) rfl; have s11 := hSw.cell (i := 11) rfl; go_simp)
      try simp only [Act.put, List.setIfInBounds_toArray, List.set_cons_zero, List.set_cons_succ]
      refine wpAnyH_ready (rs := [1]) (by kernel_rfl) (by simp) (AllReadyH.cons (o := ({ dst := some 20, op := Op.call { callee := Callee.value (Operand.func 28), args := #[Operand.tmp 19], argTypes := #[25] }, type := 25, pos := "ref.go:115", after := #[{ on := 0, ground := Ground.data }], guard := none })) rfl (fun K hK => ?_) AllReadyH.nil)
      go_simp
      refine (HPH.out _).mono ?_
      rintro e w4 ⟨rfl, hb4⟩
      have hb4 : Below w2.heap.size w2 w4 := ⟨hb4.os, hb4.tape, hb4.output, hb4.size, hb4.block⟩
      have hB4 := HB2.out.below hb4 HB2.out.lt
      go_wp2_with fail
      clear hHeld
      refine hK.out _ _ hB4 (fun hHeld => ?_)
      clear hK K
      try simp only [Act.put, List.setIfInBounds_toArray, List.set_cons_zero, List.set_cons_succ]
      refine wpAnyH_take (i := 3) (oi := ({ dst := some 22, op := Op.binOp BinOp.neq 25 (Operand.tmp 20) (Operand.tmp 21) 25, type := 4, pos := "ref.go:115", after := #[{ on := 1, ground := Ground.data }, { on := 2, ground := Ground.data }], guard := none })) (v := (.bool false)) rfl (by kernel_rfl) (by kernel_rfl) (by kernel_rfl) (fun _ _ _ h => h) (Or.inl ⟨by rfl, ?_⟩) (by assumption) ?_
      · (intro w hSw; have s0 := hSw.cell (i := 0) rfl; have s1 := hSw.cell (i := 1) rfl; have s2 := hSw.cell (i := 2) rfl; have s3 := hSw.cell (i := 3) rfl; have s4 := hSw.cell (i := 4) rfl; have s5 := hSw.cell (i := 5) rfl; have s6 := hSw.cell (i := 6) rfl; have s7 := hSw.cell (i := 7) rfl; have s8 := hSw.cell (i := 8) rfl; have s9 := hSw.cell (i := 9) rfl; have s10 := hSw.cell (i := 10) rfl; have s11 := hSw.cell (i := 11) rfl; go_simp)
      try simp only [Act.put, List.setIfInBounds_toArray, List.set_cons_zero, List.set_cons_succ]
      refine wpAnyH_take (i := 4) (oi := ({ dst := some 23, op := Op.move (Operand.tmp 22), type := 4, pos := "ref.go:115", after := #[{ on := 3, ground := Ground.data }, { on := 1, ground := Ground.chain }], guard := none })) (v := (.bool false)) rfl (by kernel_rfl) (by kernel_rfl) (by kernel_rfl) (fun _ _ _ h => h) (Or.inl ⟨by rfl, ?_⟩) (by assumption) ?_
      · (intro w hSw; have s0 := hSw.cell (i := 0) rfl; have s1 := hSw.cell (i := 1) rfl; have s2 := hSw.cell (i := 2) rfl; have s3 := hSw.cell (i := 3) rfl; have s4 := hSw.cell (i := 4) rfl; have s5 := hSw.cell (i := 5) rfl; have s6 := hSw.cell (i := 6) rfl; have s7 := hSw.cell (i := 7) rfl; have s8 := hSw.cell (i := 8) rfl; have s9 := hSw.cell (i := 9) rfl; have s10 := hSw.cell (i := 10) rfl; have s11 := hSw.cell (i := 11) rfl; go_simp)
      try simp only [Act.put, List.setIfInBounds_toArray, List.set_cons_zero, List.set_cons_succ]
      refine wpAnyH_take (i := 5) (oi := ({ dst := some 24, op := Op.fieldAddr 25 (Operand.tmp 1) 1, type := 0, pos := "ref.go:115", after := #[{ on := 4, ground := Ground.guard }], guard := some (4, false) })) (v := (.pointer (some ⟨g, 1, none⟩))) rfl (by kernel_rfl) (by kernel_rfl) (by kernel_rfl) (fun _ _ _ h => h) (Or.inl ⟨by rfl, ?_⟩) (by assumption) ?_
      · (intro w hSw; have s0 := hSw.cell (i := 0) rfl; have s1 := hSw.cell (i := 1) rfl; have s2 := hSw.cell (i := 2) rfl; have s3 := hSw.cell (i := 3) rfl; have s4 := hSw.cell (i := 4) rfl; have s5 := hSw.cell (i := 5) rfl; have s6 := hSw.cell (i := 6) rfl; have s7 := hSw.cell (i := 7) rfl; have s8 := hSw.cell (i := 8) rfl; have s9 := hSw.cell (i := 9) rfl; have s10 := hSw.cell (i := 10) rfl; have s11 := hSw.cell (i := 11) rfl; go_simp)
      try simp only [Act.put, List.setIfInBounds_toArray, List.set_cons_zero, List.set_cons_succ]
      refine wpAnyH_take (i := 6) (oi := ({ dst := some 25, op := Op.load 3 (Operand.tmp 24), type := 3, pos := "ref.go:115", after := #[{ on := 5, ground := Ground.data }, { on := 4, ground := Ground.guard }], guard := some (4, false) })) (v := (.int .i64 a1)) rfl (by kernel_rfl) (by kernel_rfl) (by kernel_rfl) (fun _ _ _ h => h) (Or.inl ⟨by rfl, ?_⟩) (by assumption) ?_
      · (intro w hSw; have s0 := hSw.cell (i := 0) rfl; have s1 := hSw.cell (i := 1) rfl; have s2 := hSw.cell (i := 2) rfl; have s3 := hSw.cell (i := 3) rfl; have s4 := hSw.cell (i := 4) rfl; have s5 := hSw.cell (i := 5) rfl; have s6 := hSw.cell (i := 6) rfl; have s7 := hSw.cell (i := 7) rfl; have s8 := hSw.cell (i := 8) rfl; have s9 := hSw.cell (i := 9) rfl; have s10 := hSw.cell (i := 10) rfl; have s11 := hSw.cell (i := 11) rfl; go_simp)
      try simp only [Act.put, List.setIfInBounds_toArray, List.set_cons_zero, List.set_cons_succ]
      refine wpAnyH_take (i := 8) (oi := ({ dst := some 27, op := Op.move (Operand.tmp 4), type := 3, pos := "ref.go:115", after := #[{ on := 4, ground := Ground.guard }], guard := some (4, false) })) (v := (.int .i64 wf)) rfl (by kernel_rfl) (by kernel_rfl) (by kernel_rfl) (fun _ _ _ h => h) (Or.inl ⟨by rfl, ?_⟩) (by assumption) ?_
      · (intro w hSw; have s0 := hSw.cell (i := 0) rfl; have s1 := hSw.cell (i := 1) rfl; have s2 := hSw.cell (i := 2) rfl; have s3 := hSw.cell (i := 3) rfl; have s4 := hSw.cell (i := 4) rfl; have s5 := hSw.cell (i := 5) rfl; have s6 := hSw.cell (i := 6) rfl; have s7 := hSw.cell (i := 7) rfl; have s8 := hSw.cell (i := 8) rfl; have s9 := hSw.cell (i := 9) rfl; have s10 := hSw.cell (i := 10) rfl; have s11 := hSw.cell (i := 11) rfl; go_simp)
      try simp only [Act.put, List.setIfInBounds_toArray, List.set_cons_zero, List.set_cons_succ]
      refine wpAnyH_ready (rs := [7]) (by kernel_rfl) (by simp) (AllReadyH.cons (o := ({ dst := some 26, op := Op.call { callee := Callee.value (Operand.func 65), args := #[Operand.tmp 25], argTypes := #[3] }, type := 3, pos := "ref.go:115", after := #[{ on := 6, ground := Ground.data }, { on := 4, ground := Ground.chain }, { on := 4, ground := Ground.guard }], guard := some (4, false) })) rfl (fun K hK => ?_) AllReadyH.nil)
      go_simp
      refine (PF.out _).mono ?_
      rintro e w' ⟨rfl, rfl⟩
      go_wp2_with fail
      clear hHeld
      refine hK.out _ _ hB4 (fun hHeld => ?_)
      clear hK K
      try simp only [Act.put, List.setIfInBounds_toArray, List.set_cons_zero, List.set_cons_succ]
      refine wpAnyH_take (i := 9) (oi := ({ dst := some 28, op := Op.binOp BinOp.neq 3 (Operand.tmp 26) (Operand.tmp 27) 3, type := 4, pos := "ref.go:115", after := #[{ on := 7, ground := Ground.data }, { on := 8, ground := Ground.data }, { on := 4, ground := Ground.guard }], guard := some (4, false) })) (v := (.bool true)) rfl (by kernel_rfl) (by kernel_rfl) (by kernel_rfl) (fun _ _ _ h => h) (Or.inl ⟨by rfl, ?_⟩) (by assumption) ?_
      · (intro w hSw; have s0 := hSw.cell (i := 0) rfl; have s1 := hSw.cell (i := 1) rfl; have s2 := hSw.cell (i := 2) rfl; have s3 := hSw.cell (i := 3) rfl; have s4 := hSw.cell (i := 4) rfl; have s5 := hSw.cell (i := 5) rfl; have s6 := hSw.cell (i := 6) rfl; have s7 := hSw.cell (i := 7) rfl; have s8 := hSw.cell (i := 8) rfl; have s9 := hSw.cell (i := 9) rfl; have s10 := hSw.cell (i := 10) rfl; have s11 := hSw.cell (i := 11) rfl; go_simp)
      try simp only [Act.put, List.setIfInBounds_toArray, List.set_cons_zero, List.set_cons_succ]
      refine wpAnyH_take (i := 10) (oi := ({ dst := some 29, op := Op.pick (Operand.tmp 23) (Operand.const (Value.bool true)) (Operand.tmp 28), type := 4, pos := "ref.go:115", after := #[{ on := 4, ground := Ground.data }, { on := 9, ground := Ground.data }], guard := none })) (v := (.bool true)) rfl (by kernel_rfl) (by kernel_rfl) (by kernel_rfl) (fun _ _ _ h => h) (Or.inl ⟨by rfl, ?_⟩) (by assumption) ?_
      · (intro w hSw; have s0 := hSw.cell (i := 0) rfl; have s1 := hSw.cell (i := 1) rfl; have s2 := hSw.cell (i := 2) rfl; have s3 := hSw.cell (i := 3) rfl; have s4 := hSw.cell (i := 4) rfl; have s5 := hSw.cell (i := 5) rfl; have s6 := hSw.cell (i := 6) rfl; have s7 := hSw.cell (i := 7) rfl; have s8 := hSw.cell (i := 8) rfl; have s9 := hSw.cell (i := 9) rfl; have s10 := hSw.cell (i := 10) rfl; have s11 := hSw.cell (i := 11) rfl; go_simp)
      try simp only [Act.put, List.setIfInBounds_toArray, List.set_cons_zero, List.set_cons_succ]
      refine wpAnyH_take (i := 11) (oi := ({ dst := some 30, op := Op.move (Operand.tmp 29), type := 4, pos := "ref.go:115", after := #[{ on := 10, ground := Ground.data }, { on := 7, ground := Ground.chain }], guard := none })) (v := (.bool true)) rfl (by kernel_rfl) (by kernel_rfl) (by kernel_rfl) (fun _ _ _ h => h) (Or.inl ⟨by rfl, ?_⟩) (by assumption) ?_
      · (intro w hSw; have s0 := hSw.cell (i := 0) rfl; have s1 := hSw.cell (i := 1) rfl; have s2 := hSw.cell (i := 2) rfl; have s3 := hSw.cell (i := 3) rfl; have s4 := hSw.cell (i := 4) rfl; have s5 := hSw.cell (i := 5) rfl; have s6 := hSw.cell (i := 6) rfl; have s7 := hSw.cell (i := 7) rfl; have s8 := hSw.cell (i := 8) rfl; have s9 := hSw.cell (i := 9) rfl; have s10 := hSw.cell (i := 10) rfl; have s11 := hSw.cell (i := 11) rfl; go_simp)
      try simp only [Act.put, List.setIfInBounds_toArray, List.set_cons_zero, List.set_cons_succ]
      refine wpAnyH_take (i := 12) (oi := ({ dst := some 31, op := Op.fieldAddr 25 (Operand.tmp 1) 2, type := 0, pos := "ref.go:115", after := #[{ on := 11, ground := Ground.guard }], guard := some (11, false) })) (v := undef) rfl (by kernel_rfl) (by kernel_rfl) (by kernel_rfl) (fun _ _ _ h => h) (Or.inr ⟨by rfl, rfl⟩) (by assumption) ?_
      try simp only [Act.put, List.setIfInBounds_toArray, List.set_cons_zero, List.set_cons_succ]
      refine wpAnyH_take (i := 13) (oi := ({ dst := some 32, op := Op.load 3 (Operand.tmp 31), type := 3, pos := "ref.go:115", after := #[{ on := 12, ground := Ground.data }, { on := 11, ground := Ground.guard }], guard := some (11, false) })) (v := undef) rfl (by kernel_rfl) (by kernel_rfl) (by kernel_rfl) (fun _ _ _ h => h) (Or.inr ⟨by rfl, rfl⟩) (by assumption) ?_
      try simp only [Act.put, List.setIfInBounds_toArray, List.set_cons_zero, List.set_cons_succ]
      refine wpAnyH_take (i := 15) (oi := ({ dst := some 34, op := Op.move (Operand.tmp 5), type := 3, pos := "ref.go:115", after := #[{ on := 11, ground := Ground.guard }], guard := some (11, false) })) (v := undef) rfl (by kernel_rfl) (by kernel_rfl) (by kernel_rfl) (fun _ _ _ h => h) (Or.inr ⟨by rfl, rfl⟩) (by assumption) ?_
      try simp only [Act.put, List.setIfInBounds_toArray, List.set_cons_zero, List.set_cons_succ]
      refine wpAnyH_take (i := 14) (oi := ({ dst := some 33, op := Op.call { callee := Callee.value (Operand.func 65), args := #[Operand.tmp 32], argTypes := #[3] }, type := 3, pos := "ref.go:115", after := #[{ on := 13, ground := Ground.data }, { on := 11, ground := Ground.chain }, { on := 11, ground := Ground.guard }], guard := some (11, false) })) (v := undef) rfl (by kernel_rfl) (by kernel_rfl) (by kernel_rfl) (fun _ _ _ h => h) (Or.inr ⟨by rfl, rfl⟩) (by assumption) ?_
      try simp only [Act.put, List.setIfInBounds_toArray, List.set_cons_zero, List.set_cons_succ]
      refine wpAnyH_take (i := 16) (oi := ({ dst := some 35, op := Op.binOp BinOp.neq 3 (Operand.tmp 33) (Operand.tmp 34) 3, type := 4, pos := "ref.go:115", after := #[{ on := 14, ground := Ground.data }, { on := 15, ground := Ground.data }, { on := 11, ground := Ground.guard }], guard := some (11, false) })) (v := undef) rfl (by kernel_rfl) (by kernel_rfl) (by kernel_rfl) (fun _ _ _ h => h) (Or.inr ⟨by rfl, rfl⟩) (by assumption) ?_
      try simp only [Act.put, List.setIfInBounds_toArray, List.set_cons_zero, List.set_cons_succ]
      refine wpAnyH_take (i := 17) (oi := ({ dst := some 36, op := Op.pick (Operand.tmp 30) (Operand.const (Value.bool true)) (Operand.tmp 35), type := 4, pos := "ref.go:115", after := #[{ on := 11, ground := Ground.data }, { on := 16, ground := Ground.data }], guard := none })) (v := (.bool true)) rfl (by kernel_rfl) (by kernel_rfl) (by kernel_rfl) (fun _ _ _ h => h) (Or.inl ⟨by rfl, ?_⟩) (by assumption) ?_
      · (intro w hSw; have s0 := hSw.cell (i := 0) rfl; have s1 := hSw.cell (i := 1) rfl; have s2 := hSw.cell (i := 2) rfl; have s3 := hSw.cell (i := 3) rfl; have s4 := hSw.cell (i := 4) rfl; have s5 := hSw.cell (i := 5) rfl; have s6 := hSw.cell (i := 6) rfl; have s7 := hSw.cell (i := 7) rfl; have s8 := hSw.cell (i := 8) rfl; have s9 := hSw.cell (i := 9) rfl; have s10 := hSw.cell (i := 10) rfl; have s11 := hSw.cell (i := 11) rfl; go_simp)
      try simp only [Act.put, List.setIfInBounds_toArray, List.set_cons_zero, List.set_cons_succ]
      refine wpAnyH_done (by kernel_rfl) ?_ _
      clear hHeld
      clear hB4
      have HL4 : Hid (Below g w w4) := Lib.hid (HL2.out.trans (hb4.mono (by rw [← HG.out]; exact HL2.out.size)))
      clear hb4
      go_wp2_with fail
      go_ret
      exact ⟨by rw [HF.out]; rfl, HL4.out⟩
    subst hpf
    by_cases hpt : pt = wt
    case neg =>
      have HF : Hid (CK = 1) := Lib.hid (HBAD.out (by right; intro _; exact hpt))
      have hne1 : (pt == wt) = false := by rw [beq_eq_false_iff_ne]; exact hpt
      go_upto_region 5 with fail
      refine wp_region_held_drew (S := (fun w' => Blk w' g #[.int .i64 a0, .int .i64 a1, .int .i64 a2, .int .i64 a3, .int .i64 a4, .int .i64 a5, .int .i64 a6, .int .i64 a7, .int .i64 a8, .int .i64 a9, .int .i64 a10, .int .i64 a11] 25)) (by kernel_rfl) HB2.out (fun hHeld => ?_)
      refine wpAnyH_take (i := 0) (oi := ({ dst := some 19, op := Op.load 25 (Operand.tmp 1), type := 25, pos := "ref.go:115", after := #[], guard := none })) (v := (.agg #[.int .i64 a0, .int .i64 a1, .int .i64 a2, .int .i64 a3, .int .i64 a4, .int .i64 a5, .int .i64 a6, .int .i64 a7, .int .i64 a8, .int .i64 a9, .int .i64 a10, .int .i64 a11])) rfl (by kernel_rfl) (by kernel_rfl) (by kernel_rfl) (fun _ _ _ h => h) (Or.inl ⟨by rfl, ?_⟩) (by assumption) ?_
      · (intro w hSw; have s0 := hSw.cell (i := 0) rfl; have s1 := hSw.cell (i := 1) rfl; have s2 := hSw.cell (i := 2) rfl; have s3 := hSw.cell (i := 3) rfl; have s4 := hSw.cell (i := 4) rfl; have s5 := hSw.cell (i := 5) rfl; have s6 := hSw.cell (i := 6) rfl; have s7 := hSw.cell (i := 7) rfl; have s8 := hSw.cell (i := 8) rfl; have s9 := hSw.cell (i := 9) rfl; have s10 := hSw.cell (i := 10) rfl; have s11 := hSw.cell (i := 11) rfl; go_simp)
      try simp only [Act.put, List.setIfInBounds_toArray, List.set_cons_zero, List.set_cons_succ]
      refine wpAnyH_take (i := 2) (oi := ({ dst := some 21, op := Op.load 25 (Operand.tmp 1), type := 25, pos := "ref.go:115", after := #[], guard := none })) (v := (.agg #[.int .i64 a0, .int .i64 a1, .int .i64 a2, .int .i64 a3, .int .i64 a4, .int .i64 a5, .int .i64 a6, .int .i64 a7, .int .i64 a8, .int .i64 a9, .int .i64 a10, .int .i64 a11])) rfl (by kernel_rfl) (by kernel_rfl) (by kernel_rfl) (fun _ _ _ h => h) (Or.inl ⟨by rfl, ?_⟩) (by assumption) ?_
      · (intro w hSw; have s0 := hSw.cell (i := 0) rfl; have s1 := hSw.cell (i := 1) rfl; have s2 := hSw.cell (i := 2) rfl; have s3 := hSw.cell (i := 3) rfl; have s4 := hSw.cell (i := 4) rfl; have s5 := hSw.cell (i := 5) rfl; have s6 := hSw.cell (i := 6) rfl; have s7 := hSw.cell (i := 7) rfl; have s8 := hSw.cell (i := 8) rfl; have s9 := hSw.cell (i := 9) rfl; have s10 := hSw.cell (i := 10) rfl; have s11 := hSw.cell (i := 11) rfl; go_simp)
      try simp only [Act.put, List.setIfInBounds_toArray, List.set_cons_zero, List.set_cons_succ]
      refine wpAnyH_ready (rs := [1]) (by kernel_rfl) (by simp) (AllReadyH.cons (o := ({ dst := some 20, op := Op.call { callee := Callee.value (Operand.func 28), args := #[Operand.tmp 19], argTypes := #[25] }, type := 25, pos := "ref.go:115", after := #[{ on := 0, ground := Ground.data }], guard := none })) rfl (fun K hK => ?_) AllReadyH.nil)
      go_simp
      refine (HPH.out _).mono ?_
      rintro e w4 ⟨rfl, hb4⟩
      have hb4 : Below w2.heap.size w2 w4 := ⟨hb4.os, hb4.tape, hb4.output, hb4.size, hb4.block⟩
      have hB4 := HB2.out.below hb4 HB2.out.lt
      go_wp2_with fail
      clear hHeld
      refine hK.out _ _ hB4 (fun hHeld => ?_)
      clear hK K
      try simp only [Act.put, List.setIfInBounds_toArray, List.set_cons_zero, List.set_cons_succ]
      refine wpAnyH_take (i := 3) (oi := ({ dst := some 22, op := Op.binOp BinOp.neq 25 (Operand.tmp 20) (Operand.tmp 21) 25, type := 4, pos := "ref.go:115", after := #[{ on := 1, ground := Ground.data }, { on := 2, ground := Ground.data }], guard := none })) (v := (.bool false)) rfl (by kernel_rfl) (by kernel_rfl) (by kernel_rfl) (fun _ _ _ h => h) (Or.inl ⟨by rfl, ?_⟩) (by assumption) ?_
      · (intro w hSw; have s0 := hSw.cell (i := 0) rfl; have s1 := hSw.cell (i := 1) rfl; have s2 := hSw.cell (i := 2) rfl; have s3 := hSw.cell (i := 3) rfl; have s4 := hSw.cell (i := 4) rfl; have s5 := hSw.cell (i := 5) rfl; have s6 := hSw.cell (i := 6) rfl; have s7 := hSw.cell (i := 7) rfl; have s8 := hSw.cell (i := 8) rfl; have s9 := hSw.cell (i := 9) rfl; have s10 := hSw.cell (i := 10) rfl; have s11 := hSw.cell (i := 11) rfl; go_simp)
      try simp only [Act.put, List.setIfInBounds_toArray, List.set_cons_zero, List.set_cons_succ]
      refine wpAnyH_take (i := 4) (oi := ({ dst := some 23, op := Op.move (Operand.tmp 22), type := 4, pos := "ref.go:115", after := #[{ on := 3, ground := Ground.data }, { on := 1, ground := Ground.chain }], guard := none })) (v := (.bool false)) rfl (by kernel_rfl) (by kernel_rfl) (by kernel_rfl) (fun _ _ _ h => h) (Or.inl ⟨by rfl, ?_⟩) (by assumption) ?_
      · (intro w hSw; have s0 := hSw.cell (i := 0) rfl; have s1 := hSw.cell (i := 1) rfl; have s2 := hSw.cell (i := 2) rfl; have s3 := hSw.cell (i := 3) rfl; have s4 := hSw.cell (i := 4) rfl; have s5 := hSw.cell (i := 5) rfl; have s6 := hSw.cell (i := 6) rfl; have s7 := hSw.cell (i := 7) rfl; have s8 := hSw.cell (i := 8) rfl; have s9 := hSw.cell (i := 9) rfl; have s10 := hSw.cell (i := 10) rfl; have s11 := hSw.cell (i := 11) rfl; go_simp)
      try simp only [Act.put, List.setIfInBounds_toArray, List.set_cons_zero, List.set_cons_succ]
      refine wpAnyH_take (i := 5) (oi := ({ dst := some 24, op := Op.fieldAddr 25 (Operand.tmp 1) 1, type := 0, pos := "ref.go:115", after := #[{ on := 4, ground := Ground.guard }], guard := some (4, false) })) (v := (.pointer (some ⟨g, 1, none⟩))) rfl (by kernel_rfl) (by kernel_rfl) (by kernel_rfl) (fun _ _ _ h => h) (Or.inl ⟨by rfl, ?_⟩) (by assumption) ?_
      · (intro w hSw; have s0 := hSw.cell (i := 0) rfl; have s1 := hSw.cell (i := 1) rfl; have s2 := hSw.cell (i := 2) rfl; have s3 := hSw.cell (i := 3) rfl; have s4 := hSw.cell (i := 4) rfl; have s5 := hSw.cell (i := 5) rfl; have s6 := hSw.cell (i := 6) rfl; have s7 := hSw.cell (i := 7) rfl; have s8 := hSw.cell (i := 8) rfl; have s9 := hSw.cell (i := 9) rfl; have s10 := hSw.cell (i := 10) rfl; have s11 := hSw.cell (i := 11) rfl; go_simp)
      try simp only [Act.put, List.setIfInBounds_toArray, List.set_cons_zero, List.set_cons_succ]
      refine wpAnyH_take (i := 6) (oi := ({ dst := some 25, op := Op.load 3 (Operand.tmp 24), type := 3, pos := "ref.go:115", after := #[{ on := 5, ground := Ground.data }, { on := 4, ground := Ground.guard }], guard := some (4, false) })) (v := (.int .i64 a1)) rfl (by kernel_rfl) (by kernel_rfl) (by kernel_rfl) (fun _ _ _ h => h) (Or.inl ⟨by rfl, ?_⟩) (by assumption) ?_
      · (intro w hSw; have s0 := hSw.cell (i := 0) rfl; have s1 := hSw.cell (i := 1) rfl; have s2 := hSw.cell (i := 2) rfl; have s3 := hSw.cell (i := 3) rfl; have s4 := hSw.cell (i := 4) rfl; have s5 := hSw.cell (i := 5) rfl; have s6 := hSw.cell (i := 6) rfl; have s7 := hSw.cell (i := 7) rfl; have s8 := hSw.cell (i := 8) rfl; have s9 := hSw.cell (i := 9) rfl; have s10 := hSw.cell (i := 10) rfl; have s11 := hSw.cell (i := 11) rfl; go_simp)
      try simp only [Act.put, List.setIfInBounds_toArray, List.set_cons_zero, List.set_cons_succ]
      refine wpAnyH_take (i := 8) (oi := ({ dst := some 27, op := Op.move (Operand.tmp 4), type := 3, pos := "ref.go:115", after := #[{ on := 4, ground := Ground.guard }], guard := some (4, false) })) (v := (.int .i64 pf)) rfl (by kernel_rfl) (by kernel_rfl) (by kernel_rfl) (fun _ _ _ h => h) (Or.inl ⟨by rfl, ?_⟩) (by assumption) ?_
      · (intro w hSw; have s0 := hSw.cell (i := 0) rfl; have s1 := hSw.cell (i := 1) rfl; have s2 := hSw.cell (i := 2) rfl; have s3 := hSw.cell (i := 3) rfl; have s4 := hSw.cell (i := 4) rfl; have s5 := hSw.cell (i := 5) rfl; have s6 := hSw.cell (i := 6) rfl; have s7 := hSw.cell (i := 7) rfl; have s8 := hSw.cell (i := 8) rfl; have s9 := hSw.cell (i := 9) rfl; have s10 := hSw.cell (i := 10) rfl; have s11 := hSw.cell (i := 11) rfl; go_simp)
      try simp only [Act.put, List.setIfInBounds_toArray, List.set_cons_zero, List.set_cons_succ]
      refine wpAnyH_ready (rs := [7]) (by kernel_rfl) (by simp) (AllReadyH.cons (o := ({ dst := some 26, op := Op.call { callee := Callee.value (Operand.func 65), args := #[Operand.tmp 25], argTypes := #[3] }, type := 3, pos := "ref.go:115", after := #[{ on := 6, ground := Ground.data }, { on := 4, ground := Ground.chain }, { on := 4, ground := Ground.guard }], guard := some (4, false) })) rfl (fun K hK => ?_) AllReadyH.nil)
      go_simp
      refine (PF.out _).mono ?_
      rintro e w' ⟨rfl, rfl⟩
      go_wp2_with fail
      clear hHeld
      refine hK.out _ _ hB4 (fun hHeld => ?_)
      clear hK K
      try simp only [Act.put, List.setIfInBounds_toArray, List.set_cons_zero, List.set_cons_succ]
      refine wpAnyH_take (i := 9) (oi := ({ dst := some 28, op := Op.binOp BinOp.neq 3 (Operand.tmp 26) (Operand.tmp 27) 3, type := 4, pos := "ref.go:115", after := #[{ on := 7, ground := Ground.data }, { on := 8, ground := Ground.data }, { on := 4, ground := Ground.guard }], guard := some (4, false) })) (v := (.bool false)) rfl (by kernel_rfl) (by kernel_rfl) (by kernel_rfl) (fun _ _ _ h => h) (Or.inl ⟨by rfl, ?_⟩) (by assumption) ?_
      · (intro w hSw; have s0 := hSw.cell (i := 0) rfl; have s1 := hSw.cell (i := 1) rfl; have s2 := hSw.cell (i := 2) rfl; have s3 := hSw.cell (i := 3) rfl; have s4 := hSw.cell (i := 4) rfl; have s5 := hSw.cell (i := 5) rfl; have s6 := hSw.cell (i := 6) rfl; have s7 := hSw.cell (i := 7) rfl; have s8 := hSw.cell (i := 8) rfl; have s9 := hSw.cell (i := 9) rfl; have s10 := hSw.cell (i := 10) rfl; have s11 := hSw.cell (i := 11) rfl; go_simp)
      try simp only [Act.put, List.setIfInBounds_toArray, List.set_cons_zero, List.set_cons_succ]
      refine wpAnyH_take (i := 10) (oi := ({ dst := some 29, op := Op.pick (Operand.tmp 23) (Operand.const (Value.bool true)) (Operand.tmp 28), type := 4, pos := "ref.go:115", after := #[{ on := 4, ground := Ground.data }, { on := 9, ground := Ground.data }], guard := none })) (v := (.bool false)) rfl (by kernel_rfl) (by kernel_rfl) (by kernel_rfl) (fun _ _ _ h => h) (Or.inl ⟨by rfl, ?_⟩) (by assumption) ?_
      · (intro w hSw; have s0 := hSw.cell (i := 0) rfl; have s1 := hSw.cell (i := 1) rfl; have s2 := hSw.cell (i := 2) rfl; have s3 := hSw.cell (i := 3) rfl; have s4 := hSw.cell (i := 4) rfl; have s5 := hSw.cell (i := 5) rfl; have s6 := hSw.cell (i := 6) rfl; have s7 := hSw.cell (i := 7) rfl; have s8 := hSw.cell (i := 8) rfl; have s9 := hSw.cell (i := 9) rfl; have s10 := hSw.cell (i := 10) rfl; have s11 := hSw.cell (i := 11) rfl; go_simp)
      try simp only [Act.put, List.setIfInBounds_toArray, List.set_cons_zero, List.set_cons_succ]
      refine wpAnyH_take (i := 11) (oi := ({ dst := some 30, op := Op.move (Operand.tmp 29), type := 4, pos := "ref.go:115", after := #[{ on := 10, ground := Ground.data }, { on := 7, ground := Ground.chain }], guard := none })) (v := (.bool false)) rfl (by kernel_rfl) (by kernel_rfl) (by kernel_rfl) (fun _ _ _ h => h) (Or.inl ⟨by rfl, ?_⟩) (by assumption) ?_
      · (intro w hSw; have s0 := hSw.cell (i := 0) rfl; have s1 := hSw.cell (i := 1) rfl; have s2 := hSw.cell (i := 2) rfl; have s3 := hSw.cell (i := 3) rfl; have s4 := hSw.cell (i := 4) rfl; have s5 := hSw.cell (i := 5) rfl; have s6 := hSw.cell (i := 6) rfl; have s7 := hSw.cell (i := 7) rfl; have s8 := hSw.cell (i := 8) rfl; have s9 := hSw.cell (i := 9) rfl; have s10 := hSw.cell (i := 10) rfl; have s11 := hSw.cell (i := 11) rfl; go_simp)
      try simp only [Act.put, List.setIfInBounds_toArray, List.set_cons_zero, List.set_cons_succ]
      refine wpAnyH_take (i := 12) (oi := ({ dst := some 31, op := Op.fieldAddr 25 (Operand.tmp 1) 2, type := 0, pos := "ref.go:115", after := #[{ on := 11, ground := Ground.guard }], guard := some (11, false) })) (v := (.pointer (some ⟨g, 2, none⟩))) rfl (by kernel_rfl) (by kernel_rfl) (by kernel_rfl) (fun _ _ _ h => h) (Or.inl ⟨by rfl, ?_⟩) (by assumption) ?_
      · (intro w hSw; have s0 := hSw.cell (i := 0) rfl; have s1 := hSw.cell (i := 1) rfl; have s2 := hSw.cell (i := 2) rfl; have s3 := hSw.cell (i := 3) rfl; have s4 := hSw.cell (i := 4) rfl; have s5 := hSw.cell (i := 5) rfl; have s6 := hSw.cell (i := 6) rfl; have s7 := hSw.cell (i := 7) rfl; have s8 := hSw.cell (i := 8) rfl; have s9 := hSw.cell (i := 9) rfl; have s10 := hSw.cell (i := 10) rfl; have s11 := hSw.cell (i := 11) rfl; go_simp)
      try simp only [Act.put, List.setIfInBounds_toArray, List.set_cons_zero, List.set_cons_succ]
      refine wpAnyH_take (i := 13) (oi := ({ dst := some 32, op := Op.load 3 (Operand.tmp 31), type := 3, pos := "ref.go:115", after := #[{ on := 12, ground := Ground.data }, { on := 11, ground := Ground.guard }], guard := some (11, false) })) (v := (.int .i64 a2)) rfl (by kernel_rfl) (by kernel_rfl) (by kernel_rfl) (fun _ _ _ h => h) (Or.inl ⟨by rfl, ?_⟩) (by assumption) ?_
      · (intro w hSw; have s0 := hSw.cell (i := 0) rfl; have s1 := hSw.cell (i := 1) rfl; have s2 := hSw.cell (i := 2) rfl; have s3 := hSw.cell (i := 3) rfl; have s4 := hSw.cell (i := 4) rfl; have s5 := hSw.cell (i := 5) rfl; have s6 := hSw.cell (i := 6) rfl; have s7 := hSw.cell (i := 7) rfl; have s8 := hSw.cell (i := 8) rfl; have s9 := hSw.cell (i := 9) rfl; have s10 := hSw.cell (i := 10) rfl; have s11 := hSw.cell (i := 11) rfl; go_simp)
      try simp only [Act.put, List.setIfInBounds_toArray, List.set_cons_zero, List.set_cons_succ]
      refine wpAnyH_take (i := 15) (oi := ({ dst := some 34, op := Op.move (Operand.tmp 5), type := 3, pos := "ref.go:115", after := #[{ on := 11, ground := Ground.guard }], guard := some (11, false) })) (v := (.int .i64 wt)) rfl (by kernel_rfl) (by kernel_rfl) (by kernel_rfl) (fun _ _ _ h => h) (Or.inl ⟨by rfl, ?_⟩) (by assumption) ?_
      · (intro w hSw; have s0 := hSw.cell (i := 0) rfl; have s1 := hSw.cell (i := 1) rfl; have s2 := hSw.cell (i := 2) rfl; have s3 := hSw.cell (i := 3) rfl; have s4 := hSw.cell (i := 4) rfl; have s5 := hSw.cell (i := 5) rfl; have s6 := hSw.cell (i := 6) rfl; have s7 := hSw.cell (i := 7) rfl; have s8 := hSw.cell (i := 8) rfl; have s9 := hSw.cell (i := 9) rfl; have s10 := hSw.cell (i := 10) rfl; have s11 := hSw.cell (i := 11) rfl; go_simp)
      try simp only [Act.put, List.setIfInBounds_toArray, List.set_cons_zero, List.set_cons_succ]
      refine wpAnyH_ready (rs := [14]) (by kernel_rfl) (by simp) (AllReadyH.cons (o := ({ dst := some 33, op := Op.call { callee := Callee.value (Operand.func 65), args := #[Operand.tmp 32], argTypes := #[3] }, type := 3, pos := "ref.go:115", after := #[{ on := 13, ground := Ground.data }, { on := 11, ground := Ground.chain }, { on := 11, ground := Ground.guard }], guard := some (11, false) })) rfl (fun K hK => ?_) AllReadyH.nil)
      go_simp
      refine (PT.out _).mono ?_
      rintro e w' ⟨rfl, rfl⟩
      go_wp2_with fail
      clear hHeld
      refine hK.out _ _ hB4 (fun hHeld => ?_)
      clear hK K
      try simp only [Act.put, List.setIfInBounds_toArray, List.set_cons_zero, List.set_cons_succ]
      refine wpAnyH_take (i := 16) (oi := ({ dst := some 35, op := Op.binOp BinOp.neq 3 (Operand.tmp 33) (Operand.tmp 34) 3, type := 4, pos := "ref.go:115", after := #[{ on := 14, ground := Ground.data }, { on := 15, ground := Ground.data }, { on := 11, ground := Ground.guard }], guard := some (11, false) })) (v := (.bool true)) rfl (by kernel_rfl) (by kernel_rfl) (by kernel_rfl) (fun _ _ _ h => h) (Or.inl ⟨by rfl, ?_⟩) (by assumption) ?_
      · (intro w hSw; have s0 := hSw.cell (i := 0) rfl; have s1 := hSw.cell (i := 1) rfl; have s2 := hSw.cell (i := 2) rfl; have s3 := hSw.cell (i := 3) rfl; have s4 := hSw.cell (i := 4) rfl; have s5 := hSw.cell (i := 5) rfl; have s6 := hSw.cell (i := 6) rfl; have s7 := hSw.cell (i := 7) rfl; have s8 := hSw.cell (i := 8) rfl; have s9 := hSw.cell (i := 9) rfl; have s10 := hSw.cell (i := 10) rfl; have s11 := hSw.cell (i := 11) rfl; go_simp)
      try simp only [Act.put, List.setIfInBounds_toArray, List.set_cons_zero, List.set_cons_succ]
      refine wpAnyH_take (i := 17) (oi := ({ dst := some 36, op := Op.pick (Operand.tmp 30) (Operand.const (Value.bool true)) (Operand.tmp 35), type := 4, pos := "ref.go:115", after := #[{ on := 11, ground := Ground.data }, { on := 16, ground := Ground.data }], guard := none })) (v := (.bool true)) rfl (by kernel_rfl) (by kernel_rfl) (by kernel_rfl) (fun _ _ _ h => h) (Or.inl ⟨by rfl, ?_⟩) (by assumption) ?_
      · (intro w hSw; have s0 := hSw.cell (i := 0) rfl; have s1 := hSw.cell (i := 1) rfl; have s2 := hSw.cell (i := 2) rfl; have s3 := hSw.cell (i := 3) rfl; have s4 := hSw.cell (i := 4) rfl; have s5 := hSw.cell (i := 5) rfl; have s6 := hSw.cell (i := 6) rfl; have s7 := hSw.cell (i := 7) rfl; have s8 := hSw.cell (i := 8) rfl; have s9 := hSw.cell (i := 9) rfl; have s10 := hSw.cell (i := 10) rfl; have s11 := hSw.cell (i := 11) rfl; go_simp)
      try simp only [Act.put, List.setIfInBounds_toArray, List.set_cons_zero, List.set_cons_succ]
      refine wpAnyH_done (by kernel_rfl) ?_ _
      clear hHeld
      clear hB4
      have HL4 : Hid (Below g w w4) := Lib.hid (HL2.out.trans (hb4.mono (by rw [← HG.out]; exact HL2.out.size)))
      clear hb4
      go_wp2_with fail
      go_ret
      exact ⟨by rw [HF.out]; rfl, HL4.out⟩
    subst hpt
    have HLE : Hid (CK = if (nmM a0).all OK = true then 0 else 1) := Lib.hid (by have := HLET.out; simpa using this)
    clear HLET HBAD
    go_upto_region 5 with fail
    refine wp_region_held_drew (S := (fun w' => Blk w' g #[.int .i64 a0, .int .i64 a1, .int .i64 a2, .int .i64 a3, .int .i64 a4, .int .i64 a5, .int .i64 a6, .int .i64 a7, .int .i64 a8, .int .i64 a9, .int .i64 a10, .int .i64 a11] 25)) (by kernel_rfl) HB2.out (fun hHeld => ?_)
    refine wpAnyH_take (i := 0) (oi := ({ dst := some 19, op := Op.load 25 (Operand.tmp 1), type := 25, pos := "ref.go:115", after := #[], guard := none })) (v := (.agg #[.int .i64 a0, .int .i64 a1, .int .i64 a2, .int .i64 a3, .int .i64 a4, .int .i64 a5, .int .i64 a6, .int .i64 a7, .int .i64 a8, .int .i64 a9, .int .i64 a10, .int .i64 a11])) rfl (by kernel_rfl) (by kernel_rfl) (by kernel_rfl) (fun _ _ _ h => h) (Or.inl ⟨by rfl, ?_⟩) (by assumption) ?_
    · (intro w hSw; have s0 := hSw.cell (i := 0) rfl; have s1 := hSw.cell (i := 1) rfl; have s2 := hSw.cell (i := 2) rfl; have s3 := hSw.cell (i := 3) rfl; have s4 := hSw.cell (i := 4) rfl; have s5 := hSw.cell (i := 5) rfl; have s6 := hSw.cell (i := 6) rfl; have s7 := hSw.cell (i := 7) rfl; have s8 := hSw.cell (i := 8) rfl; have s9 := hSw.cell (i := 9) rfl; have s10 := hSw.cell (i := 10) rfl; have s11 := hSw.cell (i := 11) rfl; go_simp)
    try simp only [Act.put, List.setIfInBounds_toArray, List.set_cons_zero, List.set_cons_succ]
    refine wpAnyH_take (i := 2) (oi := ({ dst := some 21, op := Op.load 25 (Operand.tmp 1), type := 25, pos := "ref.go:115", after := #[], guard := none })) (v := (.agg #[.int .i64 a0, .int .i64 a1, .int .i64 a2, .int .i64 a3, .int .i64 a4, .int .i64 a5, .int .i64 a6, .int .i64 a7, .int .i64 a8, .int .i64 a9, .int .i64 a10, .int .i64 a11])) rfl (by kernel_rfl) (by kernel_rfl) (by kernel_rfl) (fun _ _ _ h => h) (Or.inl ⟨by rfl, ?_⟩) (by assumption) ?_
    · (intro w hSw; have s0 := hSw.cell (i := 0) rfl; have s1 := hSw.cell (i := 1) rfl; have s2 := hSw.cell (i := 2) rfl; have s3 := hSw.cell (i := 3) rfl; have s4 := hSw.cell (i := 4) rfl; have s5 := hSw.cell (i := 5) rfl; have s6 := hSw.cell (i := 6) rfl; have s7 := hSw.cell (i := 7) rfl; have s8 := hSw.cell (i := 8) rfl; have s9 := hSw.cell (i := 9) rfl; have s10 := hSw.cell (i := 10) rfl; have s11 := hSw.cell (i := 11) rfl; go_simp)
    try simp only [Act.put, List.setIfInBounds_toArray, List.set_cons_zero, List.set_cons_succ]
    refine wpAnyH_ready (rs := [1]) (by kernel_rfl) (by simp) (AllReadyH.cons (o := ({ dst := some 20, op := Op.call { callee := Callee.value (Operand.func 28), args := #[Operand.tmp 19], argTypes := #[25] }, type := 25, pos := "ref.go:115", after := #[{ on := 0, ground := Ground.data }], guard := none })) rfl (fun K hK => ?_) AllReadyH.nil)
    go_simp
    refine (HPH.out _).mono ?_
    rintro e w4 ⟨rfl, hb4⟩
    have hb4 : Below w2.heap.size w2 w4 := ⟨hb4.os, hb4.tape, hb4.output, hb4.size, hb4.block⟩
    have hB4 := HB2.out.below hb4 HB2.out.lt
    go_wp2_with fail
    clear hHeld
    refine hK.out _ _ hB4 (fun hHeld => ?_)
    clear hK K
    try simp only [Act.put, List.setIfInBounds_toArray, List.set_cons_zero, List.set_cons_succ]
    refine wpAnyH_take (i := 3) (oi := ({ dst := some 22, op := Op.binOp BinOp.neq 25 (Operand.tmp 20) (Operand.tmp 21) 25, type := 4, pos := "ref.go:115", after := #[{ on := 1, ground := Ground.data }, { on := 2, ground := Ground.data }], guard := none })) (v := (.bool false)) rfl (by kernel_rfl) (by kernel_rfl) (by kernel_rfl) (fun _ _ _ h => h) (Or.inl ⟨by rfl, ?_⟩) (by assumption) ?_
    · (intro w hSw; have s0 := hSw.cell (i := 0) rfl; have s1 := hSw.cell (i := 1) rfl; have s2 := hSw.cell (i := 2) rfl; have s3 := hSw.cell (i := 3) rfl; have s4 := hSw.cell (i := 4) rfl; have s5 := hSw.cell (i := 5) rfl; have s6 := hSw.cell (i := 6) rfl; have s7 := hSw.cell (i := 7) rfl; have s8 := hSw.cell (i := 8) rfl; have s9 := hSw.cell (i := 9) rfl; have s10 := hSw.cell (i := 10) rfl; have s11 := hSw.cell (i := 11) rfl; go_simp)
    try simp only [Act.put, List.setIfInBounds_toArray, List.set_cons_zero, List.set_cons_succ]
    refine wpAnyH_take (i := 4) (oi := ({ dst := some 23, op := Op.move (Operand.tmp 22), type := 4, pos := "ref.go:115", after := #[{ on := 3, ground := Ground.data }, { on := 1, ground := Ground.chain }], guard := none })) (v := (.bool false)) rfl (by kernel_rfl) (by kernel_rfl) (by kernel_rfl) (fun _ _ _ h => h) (Or.inl ⟨by rfl, ?_⟩) (by assumption) ?_
    · (intro w hSw; have s0 := hSw.cell (i := 0) rfl; have s1 := hSw.cell (i := 1) rfl; have s2 := hSw.cell (i := 2) rfl; have s3 := hSw.cell (i := 3) rfl; have s4 := hSw.cell (i := 4) rfl; have s5 := hSw.cell (i := 5) rfl; have s6 := hSw.cell (i := 6) rfl; have s7 := hSw.cell (i := 7) rfl; have s8 := hSw.cell (i := 8) rfl; have s9 := hSw.cell (i := 9) rfl; have s10 := hSw.cell (i := 10) rfl; have s11 := hSw.cell (i := 11) rfl; go_simp)
    try simp only [Act.put, List.setIfInBounds_toArray, List.set_cons_zero, List.set_cons_succ]
    refine wpAnyH_take (i := 5) (oi := ({ dst := some 24, op := Op.fieldAddr 25 (Operand.tmp 1) 1, type := 0, pos := "ref.go:115", after := #[{ on := 4, ground := Ground.guard }], guard := some (4, false) })) (v := (.pointer (some ⟨g, 1, none⟩))) rfl (by kernel_rfl) (by kernel_rfl) (by kernel_rfl) (fun _ _ _ h => h) (Or.inl ⟨by rfl, ?_⟩) (by assumption) ?_
    · (intro w hSw; have s0 := hSw.cell (i := 0) rfl; have s1 := hSw.cell (i := 1) rfl; have s2 := hSw.cell (i := 2) rfl; have s3 := hSw.cell (i := 3) rfl; have s4 := hSw.cell (i := 4) rfl; have s5 := hSw.cell (i := 5) rfl; have s6 := hSw.cell (i := 6) rfl; have s7 := hSw.cell (i := 7) rfl; have s8 := hSw.cell (i := 8) rfl; have s9 := hSw.cell (i := 9) rfl; have s10 := hSw.cell (i := 10) rfl; have s11 := hSw.cell (i := 11) rfl; go_simp)
    try simp only [Act.put, List.setIfInBounds_toArray, List.set_cons_zero, List.set_cons_succ]
    refine wpAnyH_take (i := 6) (oi := ({ dst := some 25, op := Op.load 3 (Operand.tmp 24), type := 3, pos := "ref.go:115", after := #[{ on := 5, ground := Ground.data }, { on := 4, ground := Ground.guard }], guard := some (4, false) })) (v := (.int .i64 a1)) rfl (by kernel_rfl) (by kernel_rfl) (by kernel_rfl) (fun _ _ _ h => h) (Or.inl ⟨by rfl, ?_⟩) (by assumption) ?_
    · (intro w hSw; have s0 := hSw.cell (i := 0) rfl; have s1 := hSw.cell (i := 1) rfl; have s2 := hSw.cell (i := 2) rfl; have s3 := hSw.cell (i := 3) rfl; have s4 := hSw.cell (i := 4) rfl; have s5 := hSw.cell (i := 5) rfl; have s6 := hSw.cell (i := 6) rfl; have s7 := hSw.cell (i := 7) rfl; have s8 := hSw.cell (i := 8) rfl; have s9 := hSw.cell (i := 9) rfl; have s10 := hSw.cell (i := 10) rfl; have s11 := hSw.cell (i := 11) rfl; go_simp)
    try simp only [Act.put, List.setIfInBounds_toArray, List.set_cons_zero, List.set_cons_succ]
    refine wpAnyH_take (i := 8) (oi := ({ dst := some 27, op := Op.move (Operand.tmp 4), type := 3, pos := "ref.go:115", after := #[{ on := 4, ground := Ground.guard }], guard := some (4, false) })) (v := (.int .i64 pf)) rfl (by kernel_rfl) (by kernel_rfl) (by kernel_rfl) (fun _ _ _ h => h) (Or.inl ⟨by rfl, ?_⟩) (by assumption) ?_
    · (intro w hSw; have s0 := hSw.cell (i := 0) rfl; have s1 := hSw.cell (i := 1) rfl; have s2 := hSw.cell (i := 2) rfl; have s3 := hSw.cell (i := 3) rfl; have s4 := hSw.cell (i := 4) rfl; have s5 := hSw.cell (i := 5) rfl; have s6 := hSw.cell (i := 6) rfl; have s7 := hSw.cell (i := 7) rfl; have s8 := hSw.cell (i := 8) rfl; have s9 := hSw.cell (i := 9) rfl; have s10 := hSw.cell (i := 10) rfl; have s11 := hSw.cell (i := 11) rfl; go_simp)
    try simp only [Act.put, List.setIfInBounds_toArray, List.set_cons_zero, List.set_cons_succ]
    refine wpAnyH_ready (rs := [7]) (by kernel_rfl) (by simp) (AllReadyH.cons (o := ({ dst := some 26, op := Op.call { callee := Callee.value (Operand.func 65), args := #[Operand.tmp 25], argTypes := #[3] }, type := 3, pos := "ref.go:115", after := #[{ on := 6, ground := Ground.data }, { on := 4, ground := Ground.chain }, { on := 4, ground := Ground.guard }], guard := some (4, false) })) rfl (fun K hK => ?_) AllReadyH.nil)
    go_simp
    refine (PF.out _).mono ?_
    rintro e w' ⟨rfl, rfl⟩
    go_wp2_with fail
    clear hHeld
    refine hK.out _ _ hB4 (fun hHeld => ?_)
    clear hK K
    try simp only [Act.put, List.setIfInBounds_toArray, List.set_cons_zero, List.set_cons_succ]
    refine wpAnyH_take (i := 9) (oi := ({ dst := some 28, op := Op.binOp BinOp.neq 3 (Operand.tmp 26) (Operand.tmp 27) 3, type := 4, pos := "ref.go:115", after := #[{ on := 7, ground := Ground.data }, { on := 8, ground := Ground.data }, { on := 4, ground := Ground.guard }], guard := some (4, false) })) (v := (.bool false)) rfl (by kernel_rfl) (by kernel_rfl) (by kernel_rfl) (fun _ _ _ h => h) (Or.inl ⟨by rfl, ?_⟩) (by assumption) ?_
    · (intro w hSw; have s0 := hSw.cell (i := 0) rfl; have s1 := hSw.cell (i := 1) rfl; have s2 := hSw.cell (i := 2) rfl; have s3 := hSw.cell (i := 3) rfl; have s4 := hSw.cell (i := 4) rfl; have s5 := hSw.cell (i := 5) rfl; have s6 := hSw.cell (i := 6) rfl; have s7 := hSw.cell (i := 7) rfl; have s8 := hSw.cell (i := 8) rfl; have s9 := hSw.cell (i := 9) rfl; have s10 := hSw.cell (i := 10) rfl; have s11 := hSw.cell (i := 11) rfl; go_simp)
    try simp only [Act.put, List.setIfInBounds_toArray, List.set_cons_zero, List.set_cons_succ]
    refine wpAnyH_take (i := 10) (oi := ({ dst := some 29, op := Op.pick (Operand.tmp 23) (Operand.const (Value.bool true)) (Operand.tmp 28), type := 4, pos := "ref.go:115", after := #[{ on := 4, ground := Ground.data }, { on := 9, ground := Ground.data }], guard := none })) (v := (.bool false)) rfl (by kernel_rfl) (by kernel_rfl) (by kernel_rfl) (fun _ _ _ h => h) (Or.inl ⟨by rfl, ?_⟩) (by assumption) ?_
    · (intro w hSw; have s0 := hSw.cell (i := 0) rfl; have s1 := hSw.cell (i := 1) rfl; have s2 := hSw.cell (i := 2) rfl; have s3 := hSw.cell (i := 3) rfl; have s4 := hSw.cell (i := 4) rfl; have s5 := hSw.cell (i := 5) rfl; have s6 := hSw.cell (i := 6) rfl; have s7 := hSw.cell (i := 7) rfl; have s8 := hSw.cell (i := 8) rfl; have s9 := hSw.cell (i := 9) rfl; have s10 := hSw.cell (i := 10) rfl; have s11 := hSw.cell (i := 11) rfl; go_simp)
    try simp only [Act.put, List.setIfInBounds_toArray, List.set_cons_zero, List.set_cons_succ]
    refine wpAnyH_take (i := 11) (oi := ({ dst := some 30, op := Op.move (Operand.tmp 29), type := 4, pos := "ref.go:115", after := #[{ on := 10, ground := Ground.data }, { on := 7, ground := Ground.chain }], guard := none })) (v := (.bool false)) rfl (by kernel_rfl) (by kernel_rfl) (by kernel_rfl) (fun _ _ _ h => h) (Or.inl ⟨by rfl, ?_⟩) (by assumption) ?_
    · (intro w hSw; have s0 := hSw.cell (i := 0) rfl; have s1 := hSw.cell (i := 1) rfl; have s2 := hSw.cell (i := 2) rfl; have s3 := hSw.cell (i := 3) rfl; have s4 := hSw.cell (i := 4) rfl; have s5 := hSw.cell (i := 5) rfl; have s6 := hSw.cell (i := 6) rfl; have s7 := hSw.cell (i := 7) rfl; have s8 := hSw.cell (i := 8) rfl; have s9 := hSw.cell (i := 9) rfl; have s10 := hSw.cell (i := 10) rfl; have s11 := hSw.cell (i := 11) rfl; go_simp)
    try simp only [Act.put, List.setIfInBounds_toArray, List.set_cons_zero, List.set_cons_succ]
    refine wpAnyH_take (i := 12) (oi := ({ dst := some 31, op := Op.fieldAddr 25 (Operand.tmp 1) 2, type := 0, pos := "ref.go:115", after := #[{ on := 11, ground := Ground.guard }], guard := some (11, false) })) (v := (.pointer (some ⟨g, 2, none⟩))) rfl (by kernel_rfl) (by kernel_rfl) (by kernel_rfl) (fun _ _ _ h => h) (Or.inl ⟨by rfl, ?_⟩) (by assumption) ?_
    · (intro w hSw; have s0 := hSw.cell (i := 0) rfl; have s1 := hSw.cell (i := 1) rfl; have s2 := hSw.cell (i := 2) rfl; have s3 := hSw.cell (i := 3) rfl; have s4 := hSw.cell (i := 4) rfl; have s5 := hSw.cell (i := 5) rfl; have s6 := hSw.cell (i := 6) rfl; have s7 := hSw.cell (i := 7) rfl; have s8 := hSw.cell (i := 8) rfl; have s9 := hSw.cell (i := 9) rfl; have s10 := hSw.cell (i := 10) rfl; have s11 := hSw.cell (i := 11) rfl; go_simp)
    try simp only [Act.put, List.setIfInBounds_toArray, List.set_cons_zero, List.set_cons_succ]
    refine wpAnyH_take (i := 13) (oi := ({ dst := some 32, op := Op.load 3 (Operand.tmp 31), type := 3, pos := "ref.go:115", after := #[{ on := 12, ground := Ground.data }, { on := 11, ground := Ground.guard }], guard := some (11, false) })) (v := (.int .i64 a2)) rfl (by kernel_rfl) (by kernel_rfl) (by kernel_rfl) (fun _ _ _ h => h) (Or.inl ⟨by rfl, ?_⟩) (by assumption) ?_
    · (intro w hSw; have s0 := hSw.cell (i := 0) rfl; have s1 := hSw.cell (i := 1) rfl; have s2 := hSw.cell (i := 2) rfl; have s3 := hSw.cell (i := 3) rfl; have s4 := hSw.cell (i := 4) rfl; have s5 := hSw.cell (i := 5) rfl; have s6 := hSw.cell (i := 6) rfl; have s7 := hSw.cell (i := 7) rfl; have s8 := hSw.cell (i := 8) rfl; have s9 := hSw.cell (i := 9) rfl; have s10 := hSw.cell (i := 10) rfl; have s11 := hSw.cell (i := 11) rfl; go_simp)
    try simp only [Act.put, List.setIfInBounds_toArray, List.set_cons_zero, List.set_cons_succ]
    refine wpAnyH_take (i := 15) (oi := ({ dst := some 34, op := Op.move (Operand.tmp 5), type := 3, pos := "ref.go:115", after := #[{ on := 11, ground := Ground.guard }], guard := some (11, false) })) (v := (.int .i64 pt)) rfl (by kernel_rfl) (by kernel_rfl) (by kernel_rfl) (fun _ _ _ h => h) (Or.inl ⟨by rfl, ?_⟩) (by assumption) ?_
    · (intro w hSw; have s0 := hSw.cell (i := 0) rfl; have s1 := hSw.cell (i := 1) rfl; have s2 := hSw.cell (i := 2) rfl; have s3 := hSw.cell (i := 3) rfl; have s4 := hSw.cell (i := 4) rfl; have s5 := hSw.cell (i := 5) rfl; have s6 := hSw.cell (i := 6) rfl; have s7 := hSw.cell (i := 7) rfl; have s8 := hSw.cell (i := 8) rfl; have s9 := hSw.cell (i := 9) rfl; have s10 := hSw.cell (i := 10) rfl; have s11 := hSw.cell (i := 11) rfl; go_simp)
    try simp only [Act.put, List.setIfInBounds_toArray, List.set_cons_zero, List.set_cons_succ]
    refine wpAnyH_ready (rs := [14]) (by kernel_rfl) (by simp) (AllReadyH.cons (o := ({ dst := some 33, op := Op.call { callee := Callee.value (Operand.func 65), args := #[Operand.tmp 32], argTypes := #[3] }, type := 3, pos := "ref.go:115", after := #[{ on := 13, ground := Ground.data }, { on := 11, ground := Ground.chain }, { on := 11, ground := Ground.guard }], guard := some (11, false) })) rfl (fun K hK => ?_) AllReadyH.nil)
    go_simp
    refine (PT.out _).mono ?_
    rintro e w' ⟨rfl, rfl⟩
    go_wp2_with fail
    clear hHeld
    refine hK.out _ _ hB4 (fun hHeld => ?_)
    clear hK K
    try simp only [Act.put, List.setIfInBounds_toArray, List.set_cons_zero, List.set_cons_succ]
    refine wpAnyH_take (i := 16) (oi := ({ dst := some 35, op := Op.binOp BinOp.neq 3 (Operand.tmp 33) (Operand.tmp 34) 3, type := 4, pos := "ref.go:115", after := #[{ on := 14, ground := Ground.data }, { on := 15, ground := Ground.data }, { on := 11, ground := Ground.guard }], guard := some (11, false) })) (v := (.bool false)) rfl (by kernel_rfl) (by kernel_rfl) (by kernel_rfl) (fun _ _ _ h => h) (Or.inl ⟨by rfl, ?_⟩) (by assumption) ?_
    · (intro w hSw; have s0 := hSw.cell (i := 0) rfl; have s1 := hSw.cell (i := 1) rfl; have s2 := hSw.cell (i := 2) rfl; have s3 := hSw.cell (i := 3) rfl; have s4 := hSw.cell (i := 4) rfl; have s5 := hSw.cell (i := 5) rfl; have s6 := hSw.cell (i := 6) rfl; have s7 := hSw.cell (i := 7) rfl; have s8 := hSw.cell (i := 8) rfl; have s9 := hSw.cell (i := 9) rfl; have s10 := hSw.cell (i := 10) rfl; have s11 := hSw.cell (i := 11) rfl; go_simp)
    try simp only [Act.put, List.setIfInBounds_toArray, List.set_cons_zero, List.set_cons_succ]
    refine wpAnyH_take (i := 17) (oi := ({ dst := some 36, op := Op.pick (Operand.tmp 30) (Operand.const (Value.bool true)) (Operand.tmp 35), type := 4, pos := "ref.go:115", after := #[{ on := 11, ground := Ground.data }, { on := 16, ground := Ground.data }], guard := none })) (v := (.bool false)) rfl (by kernel_rfl) (by kernel_rfl) (by kernel_rfl) (fun _ _ _ h => h) (Or.inl ⟨by rfl, ?_⟩) (by assumption) ?_
    · (intro w hSw; have s0 := hSw.cell (i := 0) rfl; have s1 := hSw.cell (i := 1) rfl; have s2 := hSw.cell (i := 2) rfl; have s3 := hSw.cell (i := 3) rfl; have s4 := hSw.cell (i := 4) rfl; have s5 := hSw.cell (i := 5) rfl; have s6 := hSw.cell (i := 6) rfl; have s7 := hSw.cell (i := 7) rfl; have s8 := hSw.cell (i := 8) rfl; have s9 := hSw.cell (i := 9) rfl; have s10 := hSw.cell (i := 10) rfl; have s11 := hSw.cell (i := 11) rfl; go_simp)
    try simp only [Act.put, List.setIfInBounds_toArray, List.set_cons_zero, List.set_cons_succ]
    refine wpAnyH_done (by kernel_rfl) ?_ _
    clear hHeld
    clear hB4
    have HB4 := Lib.hid (HB2.out.below hb4 HB2.out.lt)
    have HL4 : Hid (Below g w w4) := Lib.hid (HL2.out.trans (hb4.mono (by rw [← HG.out]; exact HL2.out.size)))
    clear hb4 HB2 HL2 PF PT HPH hneq
    go_wp2_with fail
    go_loopg [6] m (fun gg s6 wr => ∃ q : Nat, q ≤ m ∧ gg = m - q ∧ s6 = .int .i64 q ∧ Hid (∀ jj c, jj < q → (nmM a0)[jj]? = some c → OK c = true) ∧ Hid (Blk wr g #[.int .i64 a0, .int .i64 a1, .int .i64 a2, .int .i64 a3, .int .i64 a4, .int .i64 a5, .int .i64 a6, .int .i64 a7, .int .i64 a8, .int .i64 a9, .int .i64 a10, .int .i64 a11] 25) ∧ Hid (Below g w wr))
    case atStart => exact ⟨0, by omega, rfl, rfl, Lib.hid (fun jj c h => by omega), HB4, HL4⟩
    case round =>
      clear HB4 HL4
      obtain ⟨q, hq, hgq, rfl, HALL, HBr, HLr⟩ := hrel
      have hgq := hgq.symm
      subst hgq
      by_cases hqm : q < m
      · have hiS : q < S.size := by omega
        have hi0 : (0 : Int) ≤ (q : Int) := by omega
        obtain ⟨c, hc⟩ : ∃ c, (nmM a0)[q]? = some c := ⟨_, List.getElem?_eq_getElem (by rw [HM.out]; exact hqm)⟩
        have hcc := nmM_mem a0 c (List.mem_of_getElem? hc)
        have hby := HBY.out q c hc hiS
        have HB1_ : Hid (OK c = false → CK = 1) := Lib.hid (fun hf => by
          rw [HLE.out, if_neg]
          rw [List.all_eq_true]
          intro h
          have := h c (List.mem_of_getElem? hc)
          rw [hf] at this; cases this)
        have HG1_ : Hid (OK c = true → ∀ jj c', jj < q + 1 → (nmM a0)[jj]? = some c' → OK c' = true) := Lib.hid (fun hf jj c' hj hc' => by
          by_cases e : jj = q
          · subst e; rw [hc] at hc'; injection hc' with hc'; rw [← hc']; exact hf
          · exact HALL.out jj c' (by omega) hc')
        clear hc
        go_upto_region 11 with fail
        dsimp only [List.append]
        rcases hcc with rfl | rfl | rfl | rfl | rfl | rfl | rfl
        · have c0 := HBr.out.cell (i := 3) rfl
          go_wp2_with fail
          refine (L69.out _).mono ?_
          rintro e w' ⟨rfl, rfl⟩
          clear c0
          cases hok : OK 69 with
          | false =>
            have HF := Lib.hid (HB1_.out hok)
            clear hok HB1_ HG1_
            go_wp2_with fail
            go_ret
            exact ⟨by rw [HF.out]; rfl, HLr.out⟩
          | true =>
            have HG2 := Lib.hid (HG1_.out hok)
            clear hok HB1_ HG1_
            go_wp2_with fail
            go_roundg (m - (q + 1))
            case measure => omega
            case rel => exact ⟨q + 1, by omega, rfl, by go_num, HG2, HBr, HLr⟩
        · have c0 := HBr.out.cell (i := 4) rfl
          go_wp2_with fail
          refine (L73.out _).mono ?_
          rintro e w' ⟨rfl, rfl⟩
          clear c0
          cases hok : OK 73 with
          | false =>
            have HF := Lib.hid (HB1_.out hok)
            clear hok HB1_ HG1_
            go_wp2_with fail
            go_ret
            exact ⟨by rw [HF.out]; rfl, HLr.out⟩
          | true =>
            have HG2 := Lib.hid (HG1_.out hok)
            clear hok HB1_ HG1_
            go_wp2_with fail
            go_roundg (m - (q + 1))
            case measure => omega
            case rel => exact ⟨q + 1, by omega, rfl, by go_num, HG2, HBr, HLr⟩
        · have c0 := HBr.out.cell (i := 5) rfl
          go_wp2_with fail
          refine (L74.out _).mono ?_
          rintro e w' ⟨rfl, rfl⟩
          clear c0
          cases hok : OK 74 with
          | false =>
            have HF := Lib.hid (HB1_.out hok)
            clear hok HB1_ HG1_
            go_wp2_with fail
            go_ret
            exact ⟨by rw [HF.out]; rfl, HLr.out⟩
          | true =>
            have HG2 := Lib.hid (HG1_.out hok)
            clear hok HB1_ HG1_
            go_wp2_with fail
            go_roundg (m - (q + 1))
            case measure => omega
            case rel => exact ⟨q + 1, by omega, rfl, by go_num, HG2, HBr, HLr⟩
        · have c0 := HBr.out.cell (i := 6) rfl
          go_wp2_with fail
          refine (L84.out _).mono ?_
          rintro e w' ⟨rfl, rfl⟩
          clear c0
          cases hok : OK 84 with
          | false =>
            have HF := Lib.hid (HB1_.out hok)
            clear hok HB1_ HG1_
            go_wp2_with fail
            go_ret
            exact ⟨by rw [HF.out]; rfl, HLr.out⟩
          | true =>
            have HG2 := Lib.hid (HG1_.out hok)
            clear hok HB1_ HG1_
            go_wp2_with fail
            go_roundg (m - (q + 1))
            case measure => omega
            case rel => exact ⟨q + 1, by omega, rfl, by go_num, HG2, HBr, HLr⟩
        · have c0 := HBr.out.cell (i := 7) rfl
          go_wp2_with fail
          refine (L80.out _).mono ?_
          rintro e w' ⟨rfl, rfl⟩
          clear c0
          cases hok : OK 80 with
          | false =>
            have HF := Lib.hid (HB1_.out hok)
            clear hok HB1_ HG1_
            go_wp2_with fail
            go_ret
            exact ⟨by rw [HF.out]; rfl, HLr.out⟩
          | true =>
            have HG2 := Lib.hid (HG1_.out hok)
            clear hok HB1_ HG1_
            go_wp2_with fail
            go_roundg (m - (q + 1))
            case measure => omega
            case rel => exact ⟨q + 1, by omega, rfl, by go_num, HG2, HBr, HLr⟩
        · have c0 := HBr.out.cell (i := 8) rfl
          go_wp2_with fail
          refine (L67.out _).mono ?_
          rintro e w' ⟨rfl, rfl⟩
          clear c0
          cases hok : OK 67 with
          | false =>
            have HF := Lib.hid (HB1_.out hok)
            clear hok HB1_ HG1_
            go_wp2_with fail
            go_ret
            exact ⟨by rw [HF.out]; rfl, HLr.out⟩
          | true =>
            have HG2 := Lib.hid (HG1_.out hok)
            clear hok HB1_ HG1_
            go_wp2_with fail
            go_roundg (m - (q + 1))
            case measure => omega
            case rel => exact ⟨q + 1, by omega, rfl, by go_num, HG2, HBr, HLr⟩
        · have c9 := HBr.out.cell (i := 9) rfl
          have c10 := HBr.out.cell (i := 10) rfl
          have c11 := HBr.out.cell (i := 11) rfl
          go_wp2_with fail
          refine (L82.out _).mono ?_
          rintro e w' ⟨rfl, hb'⟩
          have HB5 := Lib.hid (HBr.out.below hb' HBr.out.lt)
          have HL5 : Hid (Below g w w') := Lib.hid (HLr.out.trans (hb'.mono (by rw [← HG.out]; exact HLr.out.size)))
          clear c9 c10 c11 hb'
          cases hok : OK 82 with
          | false =>
            have HF := Lib.hid (HB1_.out hok)
            clear hok HB1_ HG1_
            go_wp2_with fail
            go_ret
            exact ⟨by rw [HF.out]; rfl, HL5.out⟩
          | true =>
            have HG2 := Lib.hid (HG1_.out hok)
            clear hok HB1_ HG1_
            go_wp2_with fail
            go_roundg (m - (q + 1))
            case measure => omega
            case rel => exact ⟨q + 1, by omega, rfl, by go_num, HG2, HB5, HL5⟩
      · obtain rfl : q = m := by omega
        have HF : Hid (CK = 0) := Lib.hid (by
          rw [HLE.out, if_pos]
          rw [List.all_eq_true]
          intro c hc
          obtain ⟨jj, hj, e⟩ := List.mem_iff_getElem.1 hc
          exact HALL.out jj c (by rw [HM.out] at hj; exact hj) (by rw [List.getElem?_eq_getElem hj, e]))
        clear HALL HLE
        go_wp2_with fail
        go_ret
        exact ⟨by rw [HF.out]; rfl, HLr.out⟩
end Go.Proofs.YtanihdpgblkeaaaGreatDoor
