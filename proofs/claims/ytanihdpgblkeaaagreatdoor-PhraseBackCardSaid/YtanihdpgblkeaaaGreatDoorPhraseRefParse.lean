/-
  Events as texts (reeve's layer 19): the reference's Parse.
-/
import Derived.Test.YtanihdpgblkeaaaGreatDoorPhraseRefLine
namespace Go.Proofs.YtanihdpgblkeaaaGreatDoor
open Go.RowKit
set_option linter.unusedVariables false
set_option linter.unusedSimpArgs false

theorem rowV_of {w : World} {v : Value} {l : List Int} (h : RowN w v l) : RowV 0 w v (l.map (Value.int .i64)) := by
  rcases h with ⟨p, cap, rfl, rfl⟩ | ⟨b, off, cap, rfl, hb, hc, _⟩
  · exact .inl ⟨p, cap, rfl, rfl⟩
  · refine .inr ⟨b, off, cap, by rw [List.length_map], Nat.zero_le _, hb, fun j x hj => ?_⟩
    rw [List.getElem?_map] at hj
    cases h2 : l[j]? with
    | none => rw [h2] at hj; cases hj
    | some y => rw [h2] at hj; injection hj with hj; rw [← hj]; exact hc j y h2
theorem rowR_err (ws : List (List UInt8)) (word : List UInt8) (names : List (List UInt8)) : (rowR ws word names).2 = 0 ∨ (rowR ws word names).2 = 2 := by
  unfold rowR
  split
  · split
    · exact .inl rfl
    · exact .inr rfl
  · exact .inr rfl
theorem rowR_length {ws : List (List UInt8)} {word : List UInt8} {names : List (List UInt8)} (h : (rowR ws word names).2 = 0) : (rowR ws word names).1.length = names.length := by
  unfold rowR at *
  split at h
  · rename_i h2
    rw [if_pos h2]
    split at h
    · rename_i ns h3
      have := allO_length _ _ h3
      rw [List.length_zipWith, List.length_tail, h2.1] at this
      simp only; omega
    · simp at h
  · simp at h
theorem firstK_step {ws : List (List UInt8)} {q : Nat} (hq : q ≤ 7) : (parseK q ws = none → firstK ws q (8 - q) = firstK ws (q + 1) (8 - (q + 1))) ∧ ∀ v, parseK q ws = some v → firstK ws q (8 - q) = some v := by
  obtain ⟨m, hm⟩ : ∃ m, 8 - q = m + 1 := ⟨7 - q, by omega⟩
  rw [hm, show 8 - (q + 1) = m by omega]
  constructor
  · intro h; conv => lhs; unfold firstK
    rw [h]
  · intro v h; conv => lhs; unfold firstK
    rw [h]
set_option maxRecDepth 100000 in
set_option maxHeartbeats 6400000 in
theorem ref19_parse (s : ByteArray) (hs : s.size ≤ 100000) (w : World) :
    Calls Tryz.prog 58 #[.string s] w fun e w' => e = .returned (.tuple #[.agg (cellsI (parseR (wordsL s.data.toList)).1), .int .i64 (parseR (wordsL s.data.toList)).2]) ∧ Below w.heap.size w w' := by
  have hu := Tryz.underlying43
  have RP0 := fun (q : Nat) (wx : World) (vn : Value) (h : RowS wx vn ((namesW (q : Int)).map strL)) => ref07_parse s (kindW (q : Int)) vn (namesW (q : Int)) wx hs h (by have := (namesW_len q).1; omega) (namesW_len q).2
  generalize wordsL s.data.toList = WS at *
  obtain ⟨PR, hPR⟩ : ∃ R, parseR WS = R := ⟨_, rfl⟩
  have hsome : ∀ v, firstK WS 1 7 = some v → PR = (v, 0) := fun v h => by rw [← hPR]; unfold parseR; rw [h]
  have hnone : firstK WS 1 7 = none → PR = (bare 0, 2) := fun h => by rw [← hPR]; unfold parseR; rw [h]
  rw [hPR]
  obtain ⟨PV, PE⟩ := PR
  obtain ⟨n0, hn0⟩ : ∃ n, w.heap.size = n := ⟨_, rfl⟩
  obtain ⟨W, hW⟩ : ∃ W, w.alloc (.cells (cellsI (bare 0)) 43) = W := ⟨_, rfl⟩
  have HA0 : Hid (Blk W n0 (cellsI (bare 0)) 43) := Lib.hid (by rw [← hW, ← hn0]; exact Blk.new w _ _)
  have HL0 : Hid (Below n0 w W) := Lib.hid (by rw [← hW, ← hn0]; exact (Below.refl w.heap.size w).alloc (Nat.le_refl _) _)
  have HW : Hid (w.alloc (.cells #[.int .i64 0, .int .i64 0, .int .i64 0, .int .i64 0, .int .i64 0, .int .i64 0, .int .i64 0, .int .i64 0] 43) = W) := Lib.hid hW
  have HN0 := Lib.hid hn0
  have HS := Lib.hid hsome
  have HNO := Lib.hid hnone
  have HRP := Lib.hid RP0
  rw [hn0]
  clear hW hn0 hsome hnone hPR RP0
  go_enter Tryz.func58, Tryz.ntmps58
  go_upto_region 1 with fail
  rw [HW.out]
  try rw [HN0.out]
  clear HW
  go_wp2_with fail
  go_loopg [4] 7 (fun gg k wr => ∃ q : Nat, 1 ≤ q ∧ q ≤ 8 ∧ gg = 8 - q ∧ k = .int .i64 q ∧ Hid (Blk wr n0 (cellsI (bare 0)) 43) ∧ Hid (Below n0 w wr) ∧ Hid (firstK WS 1 7 = firstK WS q (8 - q)))
  case atStart => exact ⟨1, by omega, by omega, rfl, rfl, HA0, HL0, Lib.hid rfl⟩
  case round =>
    obtain ⟨q, hq1, hq8, hg, rfl, HA, HB, HF⟩ := hrel
    have hg := hg.symm
    subst hg
    by_cases hlt : q ≤ 7
    · have hqI : (q : Int) ≤ 7 := by omega
      have hq17 : 1 ≤ (q : Int) ∧ (q : Int) ≤ 7 := by omega
      have WD := Lib.hid (fun w => ref19_wordsK (q : Int) hq17 w)
      have ND := Lib.hid (fun w => ref19_names (q : Int) hq17 w)
      have RP := HRP.out q
      rw [show ((q : Int)).toNat = q by omega] at WD
      obtain ⟨s1, s2⟩ := firstK_step (ws := WS) hlt
      have he := rowR_err WS (kindW (q : Int)) (namesW (q : Int))
      have hlen := rowR_length (ws := WS) (word := kindW (q : Int)) (names := namesW (q : Int))
      have hpk : parseK q WS = if (rowR WS (kindW (q : Int)) (namesW (q : Int))).2 = 0 then (if checkL (layZ (offs (q : Int)) (rowR WS (kindW (q : Int)) (namesW (q : Int))).1 (bare (q : Int))) = 0 then some (layZ (offs (q : Int)) (rowR WS (kindW (q : Int)) (namesW (q : Int))).1 (bare (q : Int))) else none) else none := rfl
      generalize rowR WS (kindW (q : Int)) (namesW (q : Int)) = RR at RP he hlen hpk
      obtain ⟨N1, E1⟩ := RR
      simp only at he hlen hpk
      rw [show (namesW (q : Int)).length = (offs (q : Int)).length by unfold namesW; rw [List.length_map]] at hlen
      have HE := Lib.hid he
      have HPK : Hid (E1 = 0 → N1.length = (offs (q : Int)).length ∧ ((checkL (layZ (offs (q : Int)) N1 (bare (q : Int))) = 0 → parseK q WS = some (layZ (offs (q : Int)) N1 (bare (q : Int)))) ∧ (checkL (layZ (offs (q : Int)) N1 (bare (q : Int))) ≠ 0 → parseK q WS = none))) := Lib.hid (fun h => ⟨hlen h, fun h2 => by rw [hpk, if_pos h, if_pos h2], fun h2 => by rw [hpk, if_pos h, if_neg h2]⟩)
      have HPK2 : Hid (E1 = 2 → parseK q WS = none) := Lib.hid (fun h => by rw [hpk, if_neg (by omega)])
      have HSOME : Hid (∀ v, parseK q WS = some v → (PV, PE) = (v, 0)) := Lib.hid (fun v h => HS.out v (by rw [HF.out]; exact s2 v h))
      have HNONE : Hid (parseK q WS = none → firstK WS 1 7 = firstK WS (q + 1) (8 - (q + 1))) := Lib.hid (fun h => by rw [HF.out]; exact s1 h)
      have RP := Lib.hid RP
      have q0 : (0 : Int) ≤ (q : Int) := by omega
      have q8 : (q : Int) < 8 := by omega
      have hw0 := below_self_ HB.out
      clear s1 s2 he hlen hpk HF hq17
      go_upto_region 4 with fail
      refine wp_region_held_drew (S := (fun _ => True)) (by kernel_rfl) trivial (fun hHeld => ?_)
      refine wpAnyH_take (i := 0) (oi := ({ dst := some 13, op := Op.move (Operand.tmp 0), type := 9, pos := "ref.go:65", after := #[], guard := none })) (v := (.string s)) rfl (by kernel_rfl) (by kernel_rfl) (by kernel_rfl) (fun _ _ _ h => h) (Or.inl ⟨by rfl, ?_⟩) (by assumption) ?_
      · (intro w hSw; go_simp)
      try simp only [Act.put, List.setIfInBounds_toArray, List.set_cons_zero, List.set_cons_succ]
      refine wpAnyH_take (i := 2) (oi := ({ dst := some 15, op := Op.move (Operand.tmp 4), type := 3, pos := "ref.go:65", after := #[], guard := none })) (v := (.int .i64 q)) rfl (by kernel_rfl) (by kernel_rfl) (by kernel_rfl) (fun _ _ _ h => h) (Or.inl ⟨by rfl, ?_⟩) (by assumption) ?_
      · (intro w hSw; go_simp)
      try simp only [Act.put, List.setIfInBounds_toArray, List.set_cons_zero, List.set_cons_succ]
      refine wpAnyH_take (i := 5) (oi := ({ dst := some 18, op := Op.move (Operand.tmp 4), type := 3, pos := "ref.go:65", after := #[], guard := none })) (v := (.int .i64 q)) rfl (by kernel_rfl) (by kernel_rfl) (by kernel_rfl) (fun _ _ _ h => h) (Or.inl ⟨by rfl, ?_⟩) (by assumption) ?_
      · (intro w hSw; go_simp)
      try simp only [Act.put, List.setIfInBounds_toArray, List.set_cons_zero, List.set_cons_succ]
      refine wpAnyH_ready (rs := [1]) (by kernel_rfl) (by simp) (AllReadyH.cons (o := ({ dst := some 14, op := Op.call { callee := Callee.value (Operand.func 91), args := #[], argTypes := #[] }, type := 67, pos := "ref.go:65", after := #[], guard := none })) rfl (fun K hK => ?_) AllReadyH.nil)
      go_simp
      refine (WD.out _).mono ?_
      rintro e wc ⟨bw, rfl, hwl, hwc, hbq⟩
      replace hw0 := hw0.trans (Below.mono (by exact ⟨hbq.os, hbq.tape, hbq.output, hbq.size, hbq.block⟩) hw0.size)
      clear hbq
      go_wp2_with fail
      clear hHeld
      refine hK.out _ _ trivial (fun hHeld => ?_)
      clear hK K
      try simp only [Act.put, List.setIfInBounds_toArray, List.set_cons_zero, List.set_cons_succ]
      refine wpAnyH_take (i := 3) (oi := ({ dst := some 16, op := Op.indexAddr 67 (Operand.tmp 14) (Operand.tmp 15), type := 0, pos := "ref.go:65", after := #[{ on := 1, ground := Ground.data }, { on := 2, ground := Ground.data }], guard := none })) (v := (.pointer (some ⟨bw, q, none⟩))) rfl (by kernel_rfl) (by kernel_rfl) (by kernel_rfl) (fun _ _ _ h => h) (Or.inl ⟨by rfl, ?_⟩) (by assumption) ?_
      · (intro w hSw; go_simp)
      try simp only [Act.put, List.setIfInBounds_toArray, List.set_cons_zero, List.set_cons_succ]
      refine wpAnyH_ready (rs := [4, 6]) (by kernel_rfl) (by simp) (AllReadyH.cons (o := ({ dst := some 17, op := Op.load 9 (Operand.tmp 16), type := 9, pos := "ref.go:65", after := #[{ on := 3, ground := Ground.data }], guard := none })) rfl (fun K hK => ?_) (AllReadyH.cons (o := ({ dst := some 19, op := Op.call { callee := Callee.value (Operand.func 92), args := #[Operand.tmp 18], argTypes := #[3] }, type := 67, pos := "ref.go:65", after := #[{ on := 5, ground := Ground.data }, { on := 1, ground := Ground.chain }], guard := none })) rfl (fun K hK => ?_) AllReadyH.nil))
      · go_simp
        clear hHeld
        refine hK.out _ _ trivial (fun hHeld => ?_)
        clear hK K
        try simp only [Act.put, List.setIfInBounds_toArray, List.set_cons_zero, List.set_cons_succ]
        refine wpAnyH_ready (rs := [6]) (by kernel_rfl) (by simp) (AllReadyH.cons (o := ({ dst := some 19, op := Op.call { callee := Callee.value (Operand.func 92), args := #[Operand.tmp 18], argTypes := #[3] }, type := 67, pos := "ref.go:65", after := #[{ on := 5, ground := Ground.data }, { on := 1, ground := Ground.chain }], guard := none })) rfl (fun K hK => ?_) AllReadyH.nil)
        go_simp
        refine (ND.out _).mono ?_
        rintro e wc ⟨vn, rfl, hvn, hbq⟩
        replace hvn := Lib.hid hvn
        replace hwc := keepB hbq hwc hwl
        replace hw0 := hw0.trans (Below.mono (by exact ⟨hbq.os, hbq.tape, hbq.output, hbq.size, hbq.block⟩) hw0.size)
        clear hbq
        go_wp2_with fail
        clear hHeld
        refine hK.out _ _ trivial (fun hHeld => ?_)
        clear hK K
        try simp only [Act.put, List.setIfInBounds_toArray, List.set_cons_zero, List.set_cons_succ]
        refine wpAnyH_ready (rs := [7]) (by kernel_rfl) (by simp) (AllReadyH.cons (o := ({ dst := some 20, op := Op.call { callee := Callee.value (Operand.func 47), args := #[Operand.tmp 13, Operand.tmp 17, Operand.tmp 19], argTypes := #[9, 9, 67] }, type := 78, pos := "ref.go:65", after := #[{ on := 0, ground := Ground.data }, { on := 4, ground := Ground.data }, { on := 6, ground := Ground.data }, { on := 6, ground := Ground.chain }], guard := none })) rfl (fun K hK => ?_) AllReadyH.nil)
        go_simp
        refine (RP.out _ _ hvn.out).mono ?_
        rintro e wc ⟨vl, rfl, hvl, hbq⟩
        replace hvl := Lib.hid hvl
        replace hw0 := hw0.trans (Below.mono (by exact ⟨hbq.os, hbq.tape, hbq.output, hbq.size, hbq.block⟩) hw0.size)
        clear hbq
        go_wp2_with fail
        clear hHeld
        refine hK.out _ _ trivial (fun hHeld => ?_)
        clear hK K
        try simp only [Act.put, List.setIfInBounds_toArray, List.set_cons_zero, List.set_cons_succ]
        refine wpAnyH_take (i := 8) (oi := ({ dst := some 12, op := Op.move (Operand.tmp 20), type := 78, pos := "ref.go:65", after := #[{ on := 7, ground := Ground.data }], guard := none })) (v := (.tuple #[vl, .int .i64 E1])) rfl (by kernel_rfl) (by kernel_rfl) (by kernel_rfl) (fun _ _ _ h => h) (Or.inl ⟨by rfl, ?_⟩) (by assumption) ?_
        · (intro w hSw; go_simp)
        try simp only [Act.put, List.setIfInBounds_toArray, List.set_cons_zero, List.set_cons_succ]
        refine wpAnyH_take (i := 9) (oi := ({ dst := some 21, op := Op.extract (Operand.tmp 12) 0, type := 60, pos := "ref.go:65", after := #[{ on := 8, ground := Ground.data }], guard := none })) (v := vl) rfl (by kernel_rfl) (by kernel_rfl) (by kernel_rfl) (fun _ _ _ h => h) (Or.inl ⟨by rfl, ?_⟩) (by assumption) ?_
        · (intro w hSw; go_simp)
        try simp only [Act.put, List.setIfInBounds_toArray, List.set_cons_zero, List.set_cons_succ]
        refine wpAnyH_take (i := 10) (oi := ({ dst := some 22, op := Op.extract (Operand.tmp 12) 1, type := 27, pos := "ref.go:65", after := #[{ on := 8, ground := Ground.data }, { on := 11, ground := Ground.gcOnly Departure.lateStores }], guard := none })) (v := (.int .i64 E1)) rfl (by kernel_rfl) (by kernel_rfl) (by kernel_rfl) (fun _ _ _ h => h) (Or.inl ⟨by rfl, ?_⟩) (by assumption) ?_
        · (intro w hSw; go_simp)
        try simp only [Act.put, List.setIfInBounds_toArray, List.set_cons_zero, List.set_cons_succ]
        refine wpAnyH_take (i := 11) (oi := ({ dst := some 5, op := Op.assign (Operand.tmp 21), type := 60, pos := "ref.go:65", after := #[{ on := 9, ground := Ground.data }, { on := 7, ground := Ground.chain }, { on := 0, ground := Ground.phase }, { on := 1, ground := Ground.phase }, { on := 2, ground := Ground.phase }, { on := 3, ground := Ground.phase }, { on := 4, ground := Ground.phase }, { on := 5, ground := Ground.phase }, { on := 6, ground := Ground.phase }, { on := 7, ground := Ground.phase }, { on := 8, ground := Ground.phase }, { on := 9, ground := Ground.phase }, { on := 10, ground := Ground.textOnly Departure.lateStores }], guard := none })) (v := vl) rfl (by kernel_rfl) (by kernel_rfl) (by kernel_rfl) (fun _ _ _ h => h) (Or.inl ⟨by rfl, ?_⟩) (by assumption) ?_
        · (intro w hSw; go_simp)
        try simp only [Act.put, List.setIfInBounds_toArray, List.set_cons_zero, List.set_cons_succ]
        refine wpAnyH_take (i := 12) (oi := ({ dst := some 6, op := Op.assign (Operand.tmp 22), type := 27, pos := "ref.go:65", after := #[{ on := 10, ground := Ground.data }, { on := 11, ground := Ground.chain }, { on := 0, ground := Ground.phase }, { on := 1, ground := Ground.phase }, { on := 2, ground := Ground.phase }, { on := 3, ground := Ground.phase }, { on := 4, ground := Ground.phase }, { on := 5, ground := Ground.phase }, { on := 6, ground := Ground.phase }, { on := 7, ground := Ground.phase }, { on := 8, ground := Ground.phase }, { on := 9, ground := Ground.phase }, { on := 10, ground := Ground.phase }, { on := 11, ground := Ground.phase }], guard := none })) (v := (.int .i64 E1)) rfl (by kernel_rfl) (by kernel_rfl) (by kernel_rfl) (fun _ _ _ h => h) (Or.inl ⟨by rfl, ?_⟩) (by assumption) ?_
        · (intro w hSw; go_simp)
        try simp only [Act.put, List.setIfInBounds_toArray, List.set_cons_zero, List.set_cons_succ]
        refine wpAnyH_done (by kernel_rfl) ?_ _
        clear hHeld
        have B2 := Lib.hid (HB.out.trans (hw0.mono (by have := HB.out.size; have := HN0.out; omega)))
        have HA2 := Lib.hid (HA.out.below hw0 HA.out.lt)
        rcases HE.out with rfl | rfl
        · obtain ⟨hlen, hpk⟩ := HPK.out rfl
          obtain ⟨d0, d1, d2, d3, d4, d5, d6, d7, hd⟩ := eight_of (show (layZ (offs (q : Int)) N1 (bare (q : Int))).length = 8 by rw [layZ_length]; rfl)
          have MD := ref18_made (q : Int) N1 hlen vl wc (rowV_of hvl.out)
          have CD := fun w => ref18_check (layZ (offs (q : Int)) N1 (bare (q : Int))) (by rw [layZ_length]; rfl) w
          rw [hd] at MD CD hpk
          have e8 : cellsI [d0, d1, d2, d3, d4, d5, d6, d7] = #[.int .i64 d0, .int .i64 d1, .int .i64 d2, .int .i64 d3, .int .i64 d4, .int .i64 d5, .int .i64 d6, .int .i64 d7] := rfl
          rw [e8] at MD CD
          obtain ⟨CK, hCK⟩ : ∃ c, checkL [d0, d1, d2, d3, d4, d5, d6, d7] = c := ⟨_, rfl⟩
          rw [hCK] at CD hpk
          have MD := Lib.hid MD
          have CD := Lib.hid CD
          have HPD := Lib.hid hpk
          clear hd hlen hCK hpk e8 hvl hw0 HPK
          go_wp2_with fail
          refine MD.out.mono ?_
          rintro e w5 ⟨rfl, hb5⟩
          have HA5 := Lib.hid ((HA2.out.below hb5 HA2.out.lt).alloc (.cells #[.int .i64 d0, .int .i64 d1, .int .i64 d2, .int .i64 d3, .int .i64 d4, .int .i64 d5, .int .i64 d6, .int .i64 d7] 43))
          have B5 := Lib.hid ((B2.out.trans (hb5.mono (by have := B2.out.size; have := HN0.out; omega))).alloc (by have := B2.out.size; have := HN0.out; have := hb5.size; omega) (.cells #[.int .i64 d0, .int .i64 d1, .int .i64 d2, .int .i64 d3, .int .i64 d4, .int .i64 d5, .int .i64 d6, .int .i64 d7] 43))
          have KV := Lib.hid (Blk.new w5 #[.int .i64 d0, .int .i64 d1, .int .i64 d2, .int .i64 d3, .int .i64 d4, .int .i64 d5, .int .i64 d6, .int .i64 d7] 43)
          clear hb5
          go_upto_region 7 with fail
          obtain ⟨w6, hw6⟩ : ∃ w6, w5.alloc (.cells #[.int .i64 d0, .int .i64 d1, .int .i64 d2, .int .i64 d3, .int .i64 d4, .int .i64 d5, .int .i64 d6, .int .i64 d7] 43) = w6 := ⟨_, rfl⟩
          rw [hw6] at HA5 B5 KV ⊢
          clear hw6
          obtain ⟨bv, hbv⟩ : ∃ b, w5.heap.size = b := ⟨_, rfl⟩
          rw [hbv] at KV ⊢
          clear hbv
          have v0 := KV.out.cell (i := 0) rfl
          have v1 := KV.out.cell (i := 1) rfl
          have v2 := KV.out.cell (i := 2) rfl
          have v3 := KV.out.cell (i := 3) rfl
          have v4 := KV.out.cell (i := 4) rfl
          have v5 := KV.out.cell (i := 5) rfl
          have v6 := KV.out.cell (i := 6) rfl
          have v7 := KV.out.cell (i := 7) rfl
          go_wp2_with fail
          refine (CD.out _).mono ?_
          rintro e w7 ⟨rfl, hb7⟩
          have HA7 := Lib.hid (HA5.out.below hb7 HA5.out.lt)
          have KV7 := Lib.hid (KV.out.below hb7 KV.out.lt)
          have B7 := Lib.hid (B5.out.trans (hb7.mono (by have := B5.out.size; have := HN0.out; omega)))
          clear hb7 v0 v1 v2 v3 v4 v5 v6 v7 KV B5 HA5
          have v0 := KV7.out.cell (i := 0) rfl
          have v1 := KV7.out.cell (i := 1) rfl
          have v2 := KV7.out.cell (i := 2) rfl
          have v3 := KV7.out.cell (i := 3) rfl
          have v4 := KV7.out.cell (i := 4) rfl
          have v5 := KV7.out.cell (i := 5) rfl
          have v6 := KV7.out.cell (i := 6) rfl
          have v7 := KV7.out.cell (i := 7) rfl
          by_cases hck : CK = 0
          · have HR := Lib.hid (HSOME.out _ (HPD.out.1 hck))
            subst hck
            clear HPD HSOME HNONE
            go_wp2_with (with_reducible refine ev_store rfl 43 (.tmp 2) (.tmp 31) rfl n0 (cellsI [d0, d1, d2, d3, d4, d5, d6, d7]) rfl rfl 43 _ HA7.out (by kernel_rfl) rfl (cellsI_one _) ?_; intro w9 hb9 hc9 hz9)
            refine bodyPost_ret (res_ct rfl _ n0 43 (cellsI [d0, d1, d2, d3, d4, d5, d6, d7]) _ rfl hb9 hu rfl (info_event _ rfl)) rfl ⟨by rw [(Prod.mk.inj HR.out).1, (Prod.mk.inj HR.out).2]; rfl, ?_⟩
            exact Chg.belowOf B7.out hc9 (fun k hk => by omega) (by have := B7.out.size; have := HN0.out; omega)
          · have HN := Lib.hid (HNONE.out (HPD.out.2 hck))
            have hne : (CK == 0) = false := by simp [hck]
            have hne2 : (CK != 0) = true := by simp [hck]
            clear HPD HSOME HNONE
            go_wp2_with fail
            go_roundg (8 - (q + 1))
            case measure => omega
            case rel => exact ⟨q + 1, by omega, by omega, rfl, by push_cast; go_num, HA7, B7, HN⟩
        · have HN := Lib.hid (HNONE.out (HPK2.out rfl))
          clear HPK HPK2 HSOME HNONE
          go_wp2_with fail
          go_roundg (8 - (q + 1))
          case measure => omega
          case rel => exact ⟨q + 1, by omega, by omega, rfl, by push_cast; go_num, HA2, B2, HN⟩
      · go_simp
        refine (ND.out _).mono ?_
        rintro e wc ⟨vn, rfl, hvn, hbq⟩
        replace hvn := Lib.hid hvn
        replace hwc := keepB hbq hwc hwl
        replace hw0 := hw0.trans (Below.mono (by exact ⟨hbq.os, hbq.tape, hbq.output, hbq.size, hbq.block⟩) hw0.size)
        clear hbq
        go_wp2_with fail
        clear hHeld
        refine hK.out _ _ trivial (fun hHeld => ?_)
        clear hK K
        try simp only [Act.put, List.setIfInBounds_toArray, List.set_cons_zero, List.set_cons_succ]
        refine wpAnyH_ready (rs := [4]) (by kernel_rfl) (by simp) (AllReadyH.cons (o := ({ dst := some 17, op := Op.load 9 (Operand.tmp 16), type := 9, pos := "ref.go:65", after := #[{ on := 3, ground := Ground.data }], guard := none })) rfl (fun K hK => ?_) AllReadyH.nil)
        go_simp
        clear hHeld
        refine hK.out _ _ trivial (fun hHeld => ?_)
        clear hK K
        try simp only [Act.put, List.setIfInBounds_toArray, List.set_cons_zero, List.set_cons_succ]
        refine wpAnyH_ready (rs := [7]) (by kernel_rfl) (by simp) (AllReadyH.cons (o := ({ dst := some 20, op := Op.call { callee := Callee.value (Operand.func 47), args := #[Operand.tmp 13, Operand.tmp 17, Operand.tmp 19], argTypes := #[9, 9, 67] }, type := 78, pos := "ref.go:65", after := #[{ on := 0, ground := Ground.data }, { on := 4, ground := Ground.data }, { on := 6, ground := Ground.data }, { on := 6, ground := Ground.chain }], guard := none })) rfl (fun K hK => ?_) AllReadyH.nil)
        go_simp
        refine (RP.out _ _ hvn.out).mono ?_
        rintro e wc ⟨vl, rfl, hvl, hbq⟩
        replace hvl := Lib.hid hvl
        replace hw0 := hw0.trans (Below.mono (by exact ⟨hbq.os, hbq.tape, hbq.output, hbq.size, hbq.block⟩) hw0.size)
        clear hbq
        go_wp2_with fail
        clear hHeld
        refine hK.out _ _ trivial (fun hHeld => ?_)
        clear hK K
        try simp only [Act.put, List.setIfInBounds_toArray, List.set_cons_zero, List.set_cons_succ]
        refine wpAnyH_take (i := 8) (oi := ({ dst := some 12, op := Op.move (Operand.tmp 20), type := 78, pos := "ref.go:65", after := #[{ on := 7, ground := Ground.data }], guard := none })) (v := (.tuple #[vl, .int .i64 E1])) rfl (by kernel_rfl) (by kernel_rfl) (by kernel_rfl) (fun _ _ _ h => h) (Or.inl ⟨by rfl, ?_⟩) (by assumption) ?_
        · (intro w hSw; go_simp)
        try simp only [Act.put, List.setIfInBounds_toArray, List.set_cons_zero, List.set_cons_succ]
        refine wpAnyH_take (i := 9) (oi := ({ dst := some 21, op := Op.extract (Operand.tmp 12) 0, type := 60, pos := "ref.go:65", after := #[{ on := 8, ground := Ground.data }], guard := none })) (v := vl) rfl (by kernel_rfl) (by kernel_rfl) (by kernel_rfl) (fun _ _ _ h => h) (Or.inl ⟨by rfl, ?_⟩) (by assumption) ?_
        · (intro w hSw; go_simp)
        try simp only [Act.put, List.setIfInBounds_toArray, List.set_cons_zero, List.set_cons_succ]
        refine wpAnyH_take (i := 10) (oi := ({ dst := some 22, op := Op.extract (Operand.tmp 12) 1, type := 27, pos := "ref.go:65", after := #[{ on := 8, ground := Ground.data }, { on := 11, ground := Ground.gcOnly Departure.lateStores }], guard := none })) (v := (.int .i64 E1)) rfl (by kernel_rfl) (by kernel_rfl) (by kernel_rfl) (fun _ _ _ h => h) (Or.inl ⟨by rfl, ?_⟩) (by assumption) ?_
        · (intro w hSw; go_simp)
        try simp only [Act.put, List.setIfInBounds_toArray, List.set_cons_zero, List.set_cons_succ]
        refine wpAnyH_take (i := 11) (oi := ({ dst := some 5, op := Op.assign (Operand.tmp 21), type := 60, pos := "ref.go:65", after := #[{ on := 9, ground := Ground.data }, { on := 7, ground := Ground.chain }, { on := 0, ground := Ground.phase }, { on := 1, ground := Ground.phase }, { on := 2, ground := Ground.phase }, { on := 3, ground := Ground.phase }, { on := 4, ground := Ground.phase }, { on := 5, ground := Ground.phase }, { on := 6, ground := Ground.phase }, { on := 7, ground := Ground.phase }, { on := 8, ground := Ground.phase }, { on := 9, ground := Ground.phase }, { on := 10, ground := Ground.textOnly Departure.lateStores }], guard := none })) (v := vl) rfl (by kernel_rfl) (by kernel_rfl) (by kernel_rfl) (fun _ _ _ h => h) (Or.inl ⟨by rfl, ?_⟩) (by assumption) ?_
        · (intro w hSw; go_simp)
        try simp only [Act.put, List.setIfInBounds_toArray, List.set_cons_zero, List.set_cons_succ]
        refine wpAnyH_take (i := 12) (oi := ({ dst := some 6, op := Op.assign (Operand.tmp 22), type := 27, pos := "ref.go:65", after := #[{ on := 10, ground := Ground.data }, { on := 11, ground := Ground.chain }, { on := 0, ground := Ground.phase }, { on := 1, ground := Ground.phase }, { on := 2, ground := Ground.phase }, { on := 3, ground := Ground.phase }, { on := 4, ground := Ground.phase }, { on := 5, ground := Ground.phase }, { on := 6, ground := Ground.phase }, { on := 7, ground := Ground.phase }, { on := 8, ground := Ground.phase }, { on := 9, ground := Ground.phase }, { on := 10, ground := Ground.phase }, { on := 11, ground := Ground.phase }], guard := none })) (v := (.int .i64 E1)) rfl (by kernel_rfl) (by kernel_rfl) (by kernel_rfl) (fun _ _ _ h => h) (Or.inl ⟨by rfl, ?_⟩) (by assumption) ?_
        · (intro w hSw; go_simp)
        try simp only [Act.put, List.setIfInBounds_toArray, List.set_cons_zero, List.set_cons_succ]
        refine wpAnyH_done (by kernel_rfl) ?_ _
        clear hHeld
        have B2 := Lib.hid (HB.out.trans (hw0.mono (by have := HB.out.size; have := HN0.out; omega)))
        have HA2 := Lib.hid (HA.out.below hw0 HA.out.lt)
        rcases HE.out with rfl | rfl
        · obtain ⟨hlen, hpk⟩ := HPK.out rfl
          obtain ⟨d0, d1, d2, d3, d4, d5, d6, d7, hd⟩ := eight_of (show (layZ (offs (q : Int)) N1 (bare (q : Int))).length = 8 by rw [layZ_length]; rfl)
          have MD := ref18_made (q : Int) N1 hlen vl wc (rowV_of hvl.out)
          have CD := fun w => ref18_check (layZ (offs (q : Int)) N1 (bare (q : Int))) (by rw [layZ_length]; rfl) w
          rw [hd] at MD CD hpk
          have e8 : cellsI [d0, d1, d2, d3, d4, d5, d6, d7] = #[.int .i64 d0, .int .i64 d1, .int .i64 d2, .int .i64 d3, .int .i64 d4, .int .i64 d5, .int .i64 d6, .int .i64 d7] := rfl
          rw [e8] at MD CD
          obtain ⟨CK, hCK⟩ : ∃ c, checkL [d0, d1, d2, d3, d4, d5, d6, d7] = c := ⟨_, rfl⟩
          rw [hCK] at CD hpk
          have MD := Lib.hid MD
          have CD := Lib.hid CD
          have HPD := Lib.hid hpk
          clear hd hlen hCK hpk e8 hvl hw0 HPK
          go_wp2_with fail
          refine MD.out.mono ?_
          rintro e w5 ⟨rfl, hb5⟩
          have HA5 := Lib.hid ((HA2.out.below hb5 HA2.out.lt).alloc (.cells #[.int .i64 d0, .int .i64 d1, .int .i64 d2, .int .i64 d3, .int .i64 d4, .int .i64 d5, .int .i64 d6, .int .i64 d7] 43))
          have B5 := Lib.hid ((B2.out.trans (hb5.mono (by have := B2.out.size; have := HN0.out; omega))).alloc (by have := B2.out.size; have := HN0.out; have := hb5.size; omega) (.cells #[.int .i64 d0, .int .i64 d1, .int .i64 d2, .int .i64 d3, .int .i64 d4, .int .i64 d5, .int .i64 d6, .int .i64 d7] 43))
          have KV := Lib.hid (Blk.new w5 #[.int .i64 d0, .int .i64 d1, .int .i64 d2, .int .i64 d3, .int .i64 d4, .int .i64 d5, .int .i64 d6, .int .i64 d7] 43)
          clear hb5
          go_upto_region 7 with fail
          obtain ⟨w6, hw6⟩ : ∃ w6, w5.alloc (.cells #[.int .i64 d0, .int .i64 d1, .int .i64 d2, .int .i64 d3, .int .i64 d4, .int .i64 d5, .int .i64 d6, .int .i64 d7] 43) = w6 := ⟨_, rfl⟩
          rw [hw6] at HA5 B5 KV ⊢
          clear hw6
          obtain ⟨bv, hbv⟩ : ∃ b, w5.heap.size = b := ⟨_, rfl⟩
          rw [hbv] at KV ⊢
          clear hbv
          have v0 := KV.out.cell (i := 0) rfl
          have v1 := KV.out.cell (i := 1) rfl
          have v2 := KV.out.cell (i := 2) rfl
          have v3 := KV.out.cell (i := 3) rfl
          have v4 := KV.out.cell (i := 4) rfl
          have v5 := KV.out.cell (i := 5) rfl
          have v6 := KV.out.cell (i := 6) rfl
          have v7 := KV.out.cell (i := 7) rfl
          go_wp2_with fail
          refine (CD.out _).mono ?_
          rintro e w7 ⟨rfl, hb7⟩
          have HA7 := Lib.hid (HA5.out.below hb7 HA5.out.lt)
          have KV7 := Lib.hid (KV.out.below hb7 KV.out.lt)
          have B7 := Lib.hid (B5.out.trans (hb7.mono (by have := B5.out.size; have := HN0.out; omega)))
          clear hb7 v0 v1 v2 v3 v4 v5 v6 v7 KV B5 HA5
          have v0 := KV7.out.cell (i := 0) rfl
          have v1 := KV7.out.cell (i := 1) rfl
          have v2 := KV7.out.cell (i := 2) rfl
          have v3 := KV7.out.cell (i := 3) rfl
          have v4 := KV7.out.cell (i := 4) rfl
          have v5 := KV7.out.cell (i := 5) rfl
          have v6 := KV7.out.cell (i := 6) rfl
          have v7 := KV7.out.cell (i := 7) rfl
          by_cases hck : CK = 0
          · have HR := Lib.hid (HSOME.out _ (HPD.out.1 hck))
            subst hck
            clear HPD HSOME HNONE
            go_wp2_with (with_reducible refine ev_store rfl 43 (.tmp 2) (.tmp 31) rfl n0 (cellsI [d0, d1, d2, d3, d4, d5, d6, d7]) rfl rfl 43 _ HA7.out (by kernel_rfl) rfl (cellsI_one _) ?_; intro w9 hb9 hc9 hz9)
            refine bodyPost_ret (res_ct rfl _ n0 43 (cellsI [d0, d1, d2, d3, d4, d5, d6, d7]) _ rfl hb9 hu rfl (info_event _ rfl)) rfl ⟨by rw [(Prod.mk.inj HR.out).1, (Prod.mk.inj HR.out).2]; rfl, ?_⟩
            exact Chg.belowOf B7.out hc9 (fun k hk => by omega) (by have := B7.out.size; have := HN0.out; omega)
          · have HN := Lib.hid (HNONE.out (HPD.out.2 hck))
            have hne : (CK == 0) = false := by simp [hck]
            have hne2 : (CK != 0) = true := by simp [hck]
            clear HPD HSOME HNONE
            go_wp2_with fail
            go_roundg (8 - (q + 1))
            case measure => omega
            case rel => exact ⟨q + 1, by omega, by omega, rfl, by push_cast; go_num, HA7, B7, HN⟩
        · have HN := Lib.hid (HNONE.out (HPK2.out rfl))
          clear HPK HPK2 HSOME HNONE
          go_wp2_with fail
          go_roundg (8 - (q + 1))
          case measure => omega
          case rel => exact ⟨q + 1, by omega, by omega, rfl, by push_cast; go_num, HA2, B2, HN⟩
    · obtain rfl : q = 8 := by omega
      have HR := Lib.hid (HNO.out (by rw [HF.out]; rfl))
      clear HF
      go_wp2_with (with_reducible refine ev_store rfl 43 (.tmp 2) (.tmp 32) rfl n0 (cellsI (bare 0)) rfl rfl 43 _ HA.out (by kernel_rfl) rfl (cellsI_one _) ?_; intro w9 hb9 hc9 hz9)
      refine bodyPost_ret (res_ct rfl _ n0 43 (cellsI (bare 0)) _ rfl hb9 hu rfl (info_event _ rfl)) rfl ⟨by rw [(Prod.mk.inj HR.out).1, (Prod.mk.inj HR.out).2]; rfl, ?_⟩
      exact Chg.belowOf HB.out hc9 (fun k hk => by omega) (by have := HB.out.size; have := HN0.out; omega)
end Go.Proofs.YtanihdpgblkeaaaGreatDoor
