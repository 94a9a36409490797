/-
  Events as texts (reeve's layer 19): the program's Parse.
-/
import Derived.Test.YtanihdpgblkeaaaGreatDoorPhraseLine
import Derived.Test.YtanihdpgblkeaaaGreatDoorPhraseRefParse
namespace Go.Proofs.YtanihdpgblkeaaaGreatDoor
open Go.RowKit
set_option linter.unusedVariables false
set_option linter.unusedSimpArgs false

theorem kinds_row {w : World} (h : LaidP w) : RowS w (.slice (some ⟨2, 0, none⟩) 7 7) (kindsL.map strL) := by
  refine .inr ⟨2, 0, 7, rfl, h.lt, fun j x hj => ?_, by simp [kindsL]⟩
  have hj7 : j < 7 := by have := (List.getElem?_eq_some_iff.1 hj).1; simpa [kindsL] using this
  rw [Nat.zero_add, h.kinds j hj7]
  rw [List.getElem?_map, kindsL_at j hj7] at hj
  injection hj with hj
  rw [← hj]
/-- Which kind a word is. -/
theorem find_kind (x : List UInt8) : (∃ q : Nat, q < 7 ∧ x = kindW (q + 1 : Nat) ∧ findI (kindsL.map strL) (strL x) = q ∧ findB (kindsL.map strL) (strL x) = true) ∨ ((∀ j : Nat, 1 ≤ j → j ≤ 7 → x ≠ kindW j) ∧ findB (kindsL.map strL) (strL x) = false) := by
  have hget : ∀ j, j < 7 → (kindsL.map strL).getD j ByteArray.empty = strL (kindW (j + 1 : Nat)) := by
    intro j hj
    rw [List.getD_eq_getElem?_getD, List.getElem?_map, kindsL_at j hj]
    rfl
  by_cases h : ∃ q : Nat, q < 7 ∧ x = kindW (q + 1 : Nat)
  · obtain ⟨q, hq, rfl⟩ := h
    have hi : Lib.idxOfS (kindsL.map strL) (strL (kindW (q + 1 : Nat))) = ((0 + q : Nat) : Int) := by
      refine Lib.idxFromS_hit _ _ q 0 (by simpa [kindsL] using hq) (hget q hq) (fun j hj => ?_)
      rw [hget j (by omega)]
      intro e
      have := kindW_inj (by omega) (by omega) (strL_inj e)
      omega
    rw [Nat.zero_add] at hi
    refine .inl ⟨q, hq, rfl, ?_, ?_⟩
    · unfold findI; rw [hi]; omega
    · unfold findB; rw [hi]; exact decide_eq_true (by omega)
  · have hn : ∀ j : Nat, 1 ≤ j → j ≤ 7 → x ≠ kindW j := by
      intro j h1 h2 e
      exact h ⟨j - 1, by omega, by rw [show j - 1 + 1 = j by omega]; exact e⟩
    refine .inr ⟨hn, ?_⟩
    have hi : Lib.idxOfS (kindsL.map strL) (strL x) = -1 := by
      refine Lib.idxFromS_miss _ _ _ (fun k hk => ?_)
      have hk7 : k < 7 := by simpa [kindsL] using hk
      rw [hget k hk7]
      intro e
      exact hn (k + 1) (by omega) (by omega) (strL_inj e).symm
    unfold findB; rw [hi]; exact decide_eq_false (by omega)
set_option maxRecDepth 100000 in
set_option maxHeartbeats 6400000 in
theorem phrase_parse (s : ByteArray) (hs : s.size ≤ 100000) (w : World) (hL : LaidP w) :
    Calls Tryz.prog 51 #[.string s] w fun e w' => e = .returned (.tuple #[.agg (cellsI (parseR (wordsL s.data.toList)).1), .int .i64 (parseR (wordsL s.data.toList)).2]) ∧ Below w.heap.size w w' := by
  have hu := Tryz.underlying43
  have RP0 := fun (q : Nat) (wx : World) (vn : Value) (h : RowS wx vn ((namesW (q : Int)).map strL)) (hl : Laid wx) => row_parse_own s (kindW (q : Int)) vn (namesW (q : Int)) wx hs h (by have := (namesW_len q).1; omega) (namesW_len q).2 hl
  have WW0 := fun wx => row_word s hs wx
  generalize wordsL s.data.toList = WS at *
  have hfk := find_kind (wordR WS)
  have FD0 := fun (wx : World) (h : LaidP wx) => words_find (strL (wordR WS)) _ (kindsL.map strL) wx (kinds_row h) (by simp [kindsL])
  obtain ⟨PR, hPR⟩ : ∃ R, parseR WS = R := ⟨_, rfl⟩
  rw [hPR]
  obtain ⟨PV, PE⟩ := PR
  have HPR := Lib.hid hPR
  have HFK := Lib.hid hfk
  generalize findI (kindsL.map strL) (strL (wordR WS)) = FI at *
  generalize findB (kindsL.map strL) (strL (wordR WS)) = FB at *
  obtain ⟨XW, hXW⟩ : ∃ X, strL (wordR WS) = X := ⟨_, rfl⟩
  rw [hXW] at FD0 WW0
  have FD := Lib.hid FD0
  have WW := Lib.hid WW0
  have HRP := Lib.hid RP0
  obtain ⟨n0, hn0⟩ : ∃ n, w.heap.size = n := ⟨_, rfl⟩
  obtain ⟨W, hW⟩ : ∃ W, w.alloc (.cells (cellsI (bare 0)) 43) = W := ⟨_, rfl⟩
  have HA0 : Hid (Blk W n0 (cellsI (bare 0)) 43) := Lib.hid (by rw [← hW, ← hn0]; exact Blk.new w _ _)
  have hl0 : Below w.heap.size w W := by rw [← hW]; exact (Below.refl w.heap.size w).alloc (Nat.le_refl _) _
  have HL0 : Hid (Below n0 w W) := Lib.hid (by rw [← hn0]; exact hl0)
  have HL := Lib.hid (hL.below hl0)
  have HW : Hid (w.alloc (.cells #[.int .i64 0, .int .i64 0, .int .i64 0, .int .i64 0, .int .i64 0, .int .i64 0, .int .i64 0, .int .i64 0] 43) = W) := Lib.hid hW
  have HN0 := Lib.hid hn0
  rw [hn0]
  clear hW hn0 hPR hfk FD0 WW0 RP0 hXW hl0 hL
  have hw0 := below_self_ HL0.out
  go_enter Tryz.func51, Tryz.ntmps51
  go_upto_region 1 with fail
  rw [HW.out]
  try rw [HN0.out]
  clear HW
  refine wp_region_held_drew (S := (fun _ => True)) (by kernel_rfl) trivial (fun hHeld => ?_)
  refine wpAnyH_take (i := 0) (oi := ({ dst := some 13, op := Op.move (Operand.tmp 0), type := 9, pos := "phrase.go:73", after := #[], guard := none })) (v := (.string s)) rfl (by kernel_rfl) (by kernel_rfl) (by kernel_rfl) (fun _ _ _ h => h) (Or.inl ⟨by rfl, ?_⟩) (by assumption) ?_
  · (intro w hSw; go_simp)
  try simp only [Act.put, List.setIfInBounds_toArray, List.set_cons_zero, List.set_cons_succ]
  refine wpAnyH_take (i := 2) (oi := ({ dst := some 15, op := Op.slice 117 (Operand.global 2) none none none, type := 67, pos := "phrase.go:73", after := #[], guard := none })) (v := (.slice (some ⟨2, 0, none⟩) 7 7)) rfl (by kernel_rfl) (by kernel_rfl) (by kernel_rfl) (fun _ _ _ h => h) (Or.inl ⟨by rfl, ?_⟩) (by assumption) ?_
  · (intro w hSw; go_simp)
  try simp only [Act.put, List.setIfInBounds_toArray, List.set_cons_zero, List.set_cons_succ]
  refine wpAnyH_ready (rs := [1]) (by kernel_rfl) (by simp) (AllReadyH.cons (o := ({ dst := some 14, op := Op.call { callee := Callee.value (Operand.func 56), args := #[Operand.tmp 13], argTypes := #[9] }, type := 9, pos := "phrase.go:73", after := #[{ on := 0, ground := Ground.data }], guard := none })) rfl (fun K hK => ?_) AllReadyH.nil)
  go_simp
  refine (WW.out _).mono ?_
  rintro e wc ⟨rfl, hbq⟩
  replace hw0 := hw0.trans (Below.mono (by exact ⟨hbq.os, hbq.tape, hbq.output, hbq.size, hbq.block⟩) hw0.size)
  clear hbq
  go_wp2_with fail
  clear hHeld
  refine hK.out _ _ trivial (fun hHeld => ?_)
  clear hK K
  try simp only [Act.put, List.setIfInBounds_toArray, List.set_cons_zero, List.set_cons_succ]
  refine wpAnyH_ready (rs := [3]) (by kernel_rfl) (by simp) (AllReadyH.cons (o := ({ dst := some 16, op := Op.call { callee := Callee.value (Operand.func 42), args := #[Operand.tmp 14, Operand.tmp 15], argTypes := #[9, 67] }, type := 74, pos := "phrase.go:73", after := #[{ on := 1, ground := Ground.data }, { on := 2, ground := Ground.data }, { on := 1, ground := Ground.chain }], guard := none })) rfl (fun K hK => ?_) AllReadyH.nil)
  go_simp
  refine (FD.out _ (HL.out.below hw0)).mono ?_
  rintro e wc ⟨rfl, rfl⟩
  go_wp2_with fail
  clear hHeld
  refine hK.out _ _ trivial (fun hHeld => ?_)
  clear hK K
  try simp only [Act.put, List.setIfInBounds_toArray, List.set_cons_zero, List.set_cons_succ]
  refine wpAnyH_take (i := 4) (oi := ({ dst := some 12, op := Op.move (Operand.tmp 16), type := 74, pos := "phrase.go:73", after := #[{ on := 3, ground := Ground.data }], guard := none })) (v := (.tuple #[.int .i64 FI, .bool FB])) rfl (by kernel_rfl) (by kernel_rfl) (by kernel_rfl) (fun _ _ _ h => h) (Or.inl ⟨by rfl, ?_⟩) (by assumption) ?_
  · (intro w hSw; go_simp)
  try simp only [Act.put, List.setIfInBounds_toArray, List.set_cons_zero, List.set_cons_succ]
  refine wpAnyH_take (i := 5) (oi := ({ dst := some 17, op := Op.extract (Operand.tmp 12) 0, type := 3, pos := "phrase.go:73", after := #[{ on := 4, ground := Ground.data }], guard := none })) (v := (.int .i64 FI)) rfl (by kernel_rfl) (by kernel_rfl) (by kernel_rfl) (fun _ _ _ h => h) (Or.inl ⟨by rfl, ?_⟩) (by assumption) ?_
  · (intro w hSw; go_simp)
  try simp only [Act.put, List.setIfInBounds_toArray, List.set_cons_zero, List.set_cons_succ]
  refine wpAnyH_take (i := 6) (oi := ({ dst := some 18, op := Op.extract (Operand.tmp 12) 1, type := 4, pos := "phrase.go:73", after := #[{ on := 4, ground := Ground.data }, { on := 7, ground := Ground.gcOnly Departure.lateStores }], guard := none })) (v := (.bool FB)) rfl (by kernel_rfl) (by kernel_rfl) (by kernel_rfl) (fun _ _ _ h => h) (Or.inl ⟨by rfl, ?_⟩) (by assumption) ?_
  · (intro w hSw; go_simp)
  try simp only [Act.put, List.setIfInBounds_toArray, List.set_cons_zero, List.set_cons_succ]
  refine wpAnyH_take (i := 7) (oi := ({ dst := some 4, op := Op.assign (Operand.tmp 17), type := 3, pos := "phrase.go:73", after := #[{ on := 5, ground := Ground.data }, { on := 3, ground := Ground.chain }, { on := 0, ground := Ground.phase }, { on := 1, ground := Ground.phase }, { on := 2, ground := Ground.phase }, { on := 3, ground := Ground.phase }, { on := 4, ground := Ground.phase }, { on := 5, ground := Ground.phase }, { on := 6, ground := Ground.textOnly Departure.lateStores }], guard := none })) (v := (.int .i64 FI)) rfl (by kernel_rfl) (by kernel_rfl) (by kernel_rfl) (fun _ _ _ h => h) (Or.inl ⟨by rfl, ?_⟩) (by assumption) ?_
  · (intro w hSw; go_simp)
  try simp only [Act.put, List.setIfInBounds_toArray, List.set_cons_zero, List.set_cons_succ]
  refine wpAnyH_take (i := 8) (oi := ({ dst := some 5, op := Op.assign (Operand.tmp 18), type := 4, pos := "phrase.go:73", after := #[{ on := 6, ground := Ground.data }, { on := 7, ground := Ground.chain }, { on := 0, ground := Ground.phase }, { on := 1, ground := Ground.phase }, { on := 2, ground := Ground.phase }, { on := 3, ground := Ground.phase }, { on := 4, ground := Ground.phase }, { on := 5, ground := Ground.phase }, { on := 6, ground := Ground.phase }, { on := 7, ground := Ground.phase }], guard := none })) (v := (.bool FB)) rfl (by kernel_rfl) (by kernel_rfl) (by kernel_rfl) (fun _ _ _ h => h) (Or.inl ⟨by rfl, ?_⟩) (by assumption) ?_
  · (intro w hSw; go_simp)
  try simp only [Act.put, List.setIfInBounds_toArray, List.set_cons_zero, List.set_cons_succ]
  refine wpAnyH_done (by kernel_rfl) ?_ _
  clear hHeld
  have HB1 := Lib.hid (HL0.out.trans (hw0.mono (by have := HL0.out.size; have := HN0.out; omega)))
  have HA1 := Lib.hid (HA0.out.below hw0 HA0.out.lt)
  have HL1 := Lib.hid (HL.out.below hw0)
  clear hw0 HL0 HA0 HL
  rcases HFK.out with ⟨q, hq7, hxk, rfl, rfl⟩ | ⟨hno, rfl⟩
  · obtain ⟨K, hK⟩ : ∃ K : Int, (q : Int) + 1 = K := ⟨_, rfl⟩
    have hKn : ((q + 1 : Nat) : Int) = K := by rw [← hK]; push_cast; rfl
    have hK17 : 1 ≤ K ∧ K ≤ 7 := by omega
    have h0 : WS[0]? = some (kindW K) := by
      rw [hKn] at hxk
      cases WS with
      | nil =>
        have := (kindW_plain (k := q + 1) (by omega)).1
        rw [hKn, ← hxk] at this
        exact absurd rfl this
      | cons a r => simp [wordR] at hxk ⊢; exact hxk
    have hpr : (PV, PE) = match parseK K WS with
      | some v => (v, 0)
      | none => (bare 0, 2) := by
      have := parseR_at (ws := WS) (q := q + 1) (by omega) (by rw [hKn]; exact h0)
      rw [hKn, HPR.out] at this
      exact this
    have RP := HRP.out (q + 1)
    rw [hKn] at RP
    have he := rowR_err WS (kindW K) (namesW K)
    have hlen := rowR_length (ws := WS) (word := kindW K) (names := namesW K)
    have hpk : parseK K WS = if (rowR WS (kindW K) (namesW K)).2 = 0 then (if checkL (layZ (offs K) (rowR WS (kindW K) (namesW K)).1 (bare K)) = 0 then some (layZ (offs K) (rowR WS (kindW K) (namesW K)).1 (bare K)) else none) else none := rfl
    generalize rowR WS (kindW K) (namesW K) = RR at RP he hlen hpk
    obtain ⟨N1, E1⟩ := RR
    simp only at he hlen hpk
    rw [show (namesW K).length = (offs K).length by unfold namesW; rw [List.length_map]] at hlen
    have HE := Lib.hid he
    have HPK : Hid (E1 = 0 → N1.length = (offs K).length ∧ (checkL (layZ (offs K) N1 (bare K)) = 0 → (PV, PE) = (layZ (offs K) N1 (bare K), 0)) ∧ (checkL (layZ (offs K) N1 (bare K)) ≠ 0 → (PV, PE) = (bare 0, 2))) := Lib.hid (fun h => ⟨hlen h, fun h2 => by rw [hpr, hpk, if_pos h, if_pos h2], fun h2 => by rw [hpr, hpk, if_pos h, if_neg h2]⟩)
    have HPK2 : Hid (E1 = 2 → (PV, PE) = (bare 0, 2)) := Lib.hid (fun h => by rw [hpr, hpk, if_neg (by omega)])
    have RP := Lib.hid RP
    have gk0 := HL1.out.kinds q hq7
    rw [hKn] at gk0
    obtain ⟨KW, hKW⟩ : ∃ X, strL (kindW K) = X := ⟨_, rfl⟩
    rw [hKW] at RP gk0
    have HGK := Lib.hid gk0
    have q0 : (0 : Int) ≤ (q : Int) := by omega
    have q7 : (q : Int) < 7 := by omega
    have hwr : IntKind.i64.wrap ((q : Int) + 1) = (q : Int) + 1 := by rw [IntKind.wrap_i64]; omega
    have HKE := Lib.hid hK
    clear he hlen hpk hpr hxk h0 hKn gk0 hKW HFK HRP hK
    go_upto_region 5 with fail
    rw [HKE.out]
    have HA4 := Lib.hid (HA1.out.alloc (.cells #[.int .i64 K, .int .i64 0, .int .i64 0, .int .i64 0, .int .i64 0, .int .i64 0, .int .i64 0, .int .i64 0] 43))
    have HB4 := Lib.hid (HB1.out.alloc (by have := HB1.out.size; have := HN0.out; omega) (.cells #[.int .i64 K, .int .i64 0, .int .i64 0, .int .i64 0, .int .i64 0, .int .i64 0, .int .i64 0, .int .i64 0] 43))
    have KV := Blk.new wc #[.int .i64 K, .int .i64 0, .int .i64 0, .int .i64 0, .int .i64 0, .int .i64 0, .int .i64 0, .int .i64 0] 43
    have HL4 := Lib.hid (HL1.out.below ((Below.refl _ _).alloc (Nat.le_refl _) (.cells #[.int .i64 K, .int .i64 0, .int .i64 0, .int .i64 0, .int .i64 0, .int .i64 0, .int .i64 0, .int .i64 0] 43)))
    have HG4 := Lib.hid (keepA HGK.out (.cells #[.int .i64 K, .int .i64 0, .int .i64 0, .int .i64 0, .int .i64 0, .int .i64 0, .int .i64 0, .int .i64 0] 43))
    obtain ⟨w4, hw4⟩ : ∃ w4, wc.alloc (.cells #[.int .i64 K, .int .i64 0, .int .i64 0, .int .i64 0, .int .i64 0, .int .i64 0, .int .i64 0, .int .i64 0] 43) = w4 := ⟨_, rfl⟩
    have hbv0 : n0 < wc.heap.size := HA1.out.lt
    obtain ⟨bv, hbv⟩ : ∃ b, wc.heap.size = b := ⟨_, rfl⟩
    rw [hw4, hbv] at KV
    rw [hw4] at HA4 HB4 HL4 HG4 ⊢
    rw [hbv] at hbv0 ⊢
    have HV4 := Lib.hid KV
    have HBV := Lib.hid hbv0
    have HBL := Lib.hid KV.lt
    clear hw4 hbv KV hbv0 HA1 HB1 HL1 HGK
    have c0 := HV4.out.cell (i := 0) rfl
    go_wp2_with fail
    refine (phrase_parts bv K hK17 w4 c0).mono ?_
    rintro e w5 ⟨v5, rfl, hP, hb5⟩
    obtain ⟨pp, pc, rfl⟩ := hP.len
    have HP := Lib.hid hP
    have HA5 := Lib.hid (HA4.out.below hb5 HA4.out.lt)
    have HB5 := Lib.hid (HB4.out.trans (hb5.mono (by have := HB4.out.size; have := HN0.out; omega)))
    have HV5 := Lib.hid (HV4.out.below hb5 HV4.out.lt)
    have HL5 := Lib.hid (HL4.out.below hb5)
    have gk := keepB hb5 HG4.out HL4.out.lt
    have gkl := HL5.out.lt
    have PN := Lib.hid (fun (wx : World) (h : OwnP w4.heap.size wx (.slice pp (offs K).length pc) bv (offs K)) => phrase_names w4.heap.size bv (offs K) _ wx h (by have := offs_length K; omega))
    have hw0 := below_self_ HB5.out
    clear hP hb5 c0 HA4 HB4 HV4 HL4 HG4
    go_upto_region 6 with fail
    refine wp_region_held_drew (S := (fun w' => w'.cell? ⟨2, q, none⟩ = some (.string KW))) (by kernel_rfl) gk (fun hHeld => ?_)
    refine wpAnyH_take (i := 0) (oi := ({ dst := some 27, op := Op.move (Operand.tmp 0), type := 9, pos := "phrase.go:79", after := #[], guard := none })) (v := (.string s)) rfl (by kernel_rfl) (by kernel_rfl) (by kernel_rfl) (fun _ _ _ h => h) (Or.inl ⟨by rfl, ?_⟩) (by assumption) ?_
    · (intro w hSw; go_simp)
    try simp only [Act.put, List.setIfInBounds_toArray, List.set_cons_zero, List.set_cons_succ]
    refine wpAnyH_take (i := 1) (oi := ({ dst := some 28, op := Op.move (Operand.tmp 4), type := 3, pos := "phrase.go:79", after := #[], guard := none })) (v := (.int .i64 q)) rfl (by kernel_rfl) (by kernel_rfl) (by kernel_rfl) (fun _ _ _ h => h) (Or.inl ⟨by rfl, ?_⟩) (by assumption) ?_
    · (intro w hSw; go_simp)
    try simp only [Act.put, List.setIfInBounds_toArray, List.set_cons_zero, List.set_cons_succ]
    refine wpAnyH_take (i := 2) (oi := ({ dst := some 29, op := Op.indexAddr 117 (Operand.global 2) (Operand.tmp 28), type := 0, pos := "phrase.go:79", after := #[{ on := 1, ground := Ground.data }], guard := none })) (v := (.pointer (some ⟨2, q, none⟩))) rfl (by kernel_rfl) (by kernel_rfl) (by kernel_rfl) (fun _ _ _ h => h) (Or.inl ⟨by rfl, ?_⟩) (by assumption) ?_
    · (intro w hSw; go_simp)
    try simp only [Act.put, List.setIfInBounds_toArray, List.set_cons_zero, List.set_cons_succ]
    refine wpAnyH_take (i := 3) (oi := ({ dst := some 30, op := Op.load 9 (Operand.tmp 29), type := 9, pos := "phrase.go:79", after := #[{ on := 2, ground := Ground.data }], guard := none })) (v := (.string KW)) rfl (by kernel_rfl) (by kernel_rfl) (by kernel_rfl) (fun _ _ _ h => h) (Or.inl ⟨by rfl, ?_⟩) (by assumption) ?_
    · (intro w hSw; go_simp)
    try simp only [Act.put, List.setIfInBounds_toArray, List.set_cons_zero, List.set_cons_succ]
    refine wpAnyH_take (i := 4) (oi := ({ dst := some 31, op := Op.move (Operand.tmp 7), type := 111, pos := "phrase.go:79", after := #[], guard := none })) (v := (.slice pp (offs K).length pc)) rfl (by kernel_rfl) (by kernel_rfl) (by kernel_rfl) (fun _ _ _ h => h) (Or.inl ⟨by rfl, ?_⟩) (by assumption) ?_
    · (intro w hSw; go_simp)
    try simp only [Act.put, List.setIfInBounds_toArray, List.set_cons_zero, List.set_cons_succ]
    refine wpAnyH_ready (rs := [5]) (by kernel_rfl) (by simp) (AllReadyH.cons (o := ({ dst := some 32, op := Op.call { callee := Callee.value (Operand.func 88), args := #[Operand.tmp 31], argTypes := #[111] }, type := 67, pos := "phrase.go:79", after := #[{ on := 4, ground := Ground.data }], guard := none })) rfl (fun K hK => ?_) AllReadyH.nil)
    go_simp
    refine (PN.out _ (HP.out.below (show Below w5.heap.size w5 w5.drew from ⟨rfl, rfl, rfl, Nat.le_refl _, fun _ _ => rfl⟩) (Nat.le_refl _))).mono ?_
    rintro e wc ⟨vn, rfl, hvn, hbq⟩
    replace hvn := Lib.hid hvn.row
    replace hw0 := hw0.trans (Below.mono (by exact ⟨hbq.os, hbq.tape, hbq.output, hbq.size, hbq.block⟩) hw0.size)
    clear hbq
    go_wp2_with fail
    clear hHeld
    refine hK.out _ _ (keepB hw0 gk gkl) (fun hHeld => ?_)
    clear hK K
    try simp only [Act.put, List.setIfInBounds_toArray, List.set_cons_zero, List.set_cons_succ]
    refine wpAnyH_ready (rs := [6]) (by kernel_rfl) (by simp) (AllReadyH.cons (o := ({ dst := some 33, op := Op.call { callee := Callee.value (Operand.func 44), args := #[Operand.tmp 27, Operand.tmp 30, Operand.tmp 32], argTypes := #[9, 9, 67] }, type := 78, pos := "phrase.go:79", after := #[{ on := 0, ground := Ground.data }, { on := 3, ground := Ground.data }, { on := 5, ground := Ground.data }, { on := 5, ground := Ground.chain }], guard := none })) rfl (fun K hK => ?_) AllReadyH.nil)
    go_simp
    have hbs := hw0.size
    refine (RP.out _ _ hvn.out (HL5.out.below hw0).laid).mono ?_
    rintro e w6 ⟨vl, rfl, hvl, hbq⟩
    replace hvl := Lib.hid (hvl.lower hbs)
    replace hw0 := hw0.trans (Below.mono (by exact ⟨hbq.os, hbq.tape, hbq.output, hbq.size, hbq.block⟩) hw0.size)
    clear hbq
    go_wp2_with fail
    clear hHeld
    refine hK.out _ _ (keepB hw0 gk gkl) (fun hHeld => ?_)
    clear hK K
    try simp only [Act.put, List.setIfInBounds_toArray, List.set_cons_zero, List.set_cons_succ]
    refine wpAnyH_take (i := 7) (oi := ({ dst := some 26, op := Op.move (Operand.tmp 33), type := 78, pos := "phrase.go:79", after := #[{ on := 6, ground := Ground.data }], guard := none })) (v := (.tuple #[vl, .int .i64 E1])) rfl (by kernel_rfl) (by kernel_rfl) (by kernel_rfl) (fun _ _ _ h => h) (Or.inl ⟨by rfl, ?_⟩) (by assumption) ?_
    · (intro w hSw; go_simp)
    try simp only [Act.put, List.setIfInBounds_toArray, List.set_cons_zero, List.set_cons_succ]
    refine wpAnyH_take (i := 8) (oi := ({ dst := some 34, op := Op.extract (Operand.tmp 26) 0, type := 60, pos := "phrase.go:79", after := #[{ on := 7, ground := Ground.data }], guard := none })) (v := vl) rfl (by kernel_rfl) (by kernel_rfl) (by kernel_rfl) (fun _ _ _ h => h) (Or.inl ⟨by rfl, ?_⟩) (by assumption) ?_
    · (intro w hSw; go_simp)
    try simp only [Act.put, List.setIfInBounds_toArray, List.set_cons_zero, List.set_cons_succ]
    refine wpAnyH_take (i := 9) (oi := ({ dst := some 35, op := Op.extract (Operand.tmp 26) 1, type := 27, pos := "phrase.go:79", after := #[{ on := 7, ground := Ground.data }, { on := 10, ground := Ground.gcOnly Departure.lateStores }], guard := none })) (v := (.int .i64 E1)) rfl (by kernel_rfl) (by kernel_rfl) (by kernel_rfl) (fun _ _ _ h => h) (Or.inl ⟨by rfl, ?_⟩) (by assumption) ?_
    · (intro w hSw; go_simp)
    try simp only [Act.put, List.setIfInBounds_toArray, List.set_cons_zero, List.set_cons_succ]
    refine wpAnyH_take (i := 10) (oi := ({ dst := some 8, op := Op.assign (Operand.tmp 34), type := 60, pos := "phrase.go:79", after := #[{ on := 8, ground := Ground.data }, { on := 6, ground := Ground.chain }, { on := 0, ground := Ground.phase }, { on := 1, ground := Ground.phase }, { on := 2, ground := Ground.phase }, { on := 3, ground := Ground.phase }, { on := 4, ground := Ground.phase }, { on := 5, ground := Ground.phase }, { on := 6, ground := Ground.phase }, { on := 7, ground := Ground.phase }, { on := 8, ground := Ground.phase }, { on := 9, ground := Ground.textOnly Departure.lateStores }], guard := none })) (v := vl) rfl (by kernel_rfl) (by kernel_rfl) (by kernel_rfl) (fun _ _ _ h => h) (Or.inl ⟨by rfl, ?_⟩) (by assumption) ?_
    · (intro w hSw; go_simp)
    try simp only [Act.put, List.setIfInBounds_toArray, List.set_cons_zero, List.set_cons_succ]
    refine wpAnyH_take (i := 11) (oi := ({ dst := some 9, op := Op.assign (Operand.tmp 35), type := 27, pos := "phrase.go:79", after := #[{ on := 9, ground := Ground.data }, { on := 10, ground := Ground.chain }, { on := 0, ground := Ground.phase }, { on := 1, ground := Ground.phase }, { on := 2, ground := Ground.phase }, { on := 3, ground := Ground.phase }, { on := 4, ground := Ground.phase }, { on := 5, ground := Ground.phase }, { on := 6, ground := Ground.phase }, { on := 7, ground := Ground.phase }, { on := 8, ground := Ground.phase }, { on := 9, ground := Ground.phase }, { on := 10, ground := Ground.phase }], guard := none })) (v := (.int .i64 E1)) rfl (by kernel_rfl) (by kernel_rfl) (by kernel_rfl) (fun _ _ _ h => h) (Or.inl ⟨by rfl, ?_⟩) (by assumption) ?_
    · (intro w hSw; go_simp)
    try simp only [Act.put, List.setIfInBounds_toArray, List.set_cons_zero, List.set_cons_succ]
    refine wpAnyH_done (by kernel_rfl) ?_ _
    clear hHeld
    have HB6 := Lib.hid (HB5.out.trans (hw0.mono (by have := HB5.out.size; have := HN0.out; omega)))
    have HA6 := Lib.hid (HA5.out.below hw0 HA5.out.lt)
    have HV6 := Lib.hid (HV5.out.below hw0 HV5.out.lt)
    have HP6 := Lib.hid (HP.out.below hw0 (Nat.le_refl _))
    have HS45 := Lib.hid hw0.size
    have HBL5 := Lib.hid HV5.out.lt
    clear hw0 HB5 HA5 HV5 HP HL5 gk
    rcases HE.out with rfl | rfl
    · obtain ⟨hlen, hs1, hs2⟩ := HPK.out rfl
      obtain ⟨m, hm⟩ : ∃ m, (offs K).length = m := ⟨_, rfl⟩
      have hm0 : 0 < m := by
        rw [← hm]
        rcases kind_seven hK17 with rfl | rfl | rfl | rfl | rfl | rfl | rfl <;> decide
      have hofl := offs_lt K
      rw [hm] at hlen HP6 ⊢
      obtain ⟨bl, lc, hvl1, hvl2, hvl3⟩ : ∃ bl lc, vl = .slice (some ⟨bl, 0, none⟩) m lc ∧ w5.heap.size ≤ bl ∧ bl < w6.heap.size := by
        obtain ⟨_, ⟨_, h2⟩ | ⟨g2, cap, cur, h2, h3, h4, _⟩⟩ := hvl.out
        · omega
        · exact ⟨g2, cap, by rw [h2, hlen], h3, (Array.getElem?_eq_some_iff.1 h4).1⟩
      subst hvl1
      have hlc : ∀ i x, N1[i]? = some x → w6.cell? ⟨bl, i, none⟩ = some (.int .i64 x) := by
        intro i x hx
        have h := World.ownsRow.cells hvl.out (g := bl) rfl i (.int .i64 x) (by rw [List.getElem?_map, hx]; rfl)
        have e : (⟨bl, 0, none⟩ : Addr).add i = ⟨bl, i, none⟩ := by simp [Addr.add]; intro h; exact h.symm
        rw [e] at h
        exact h
      have HLC := Lib.hid hlc
      have HM := Lib.hid hm
      have HLEN := Lib.hid hlen
      have HS1 := Lib.hid hs1
      have HS2 := Lib.hid hs2
      have HOFL := Lib.hid hofl
      have HL2 : Hid (bv < bl ∧ bl < w6.heap.size) := Lib.hid ⟨by have := HBL5.out; omega, hvl3⟩
      have HB2 : Hid (bv < w6.heap.size) := Lib.hid HV6.out.lt
      clear hlc hm hlen hs1 hs2 hofl hvl hvl2 hvl3 HPK HPK2
      go_wp2_with fail
      go_loopg [42] m (fun gg s42 wr => ∃ (i : Nat) (d : List Int), i ≤ m ∧ gg = m - i ∧ s42 = .int .i64 i ∧ d.length = 8 ∧ Hid (d = layZ ((offs K).take i) (N1.take i) (bare K)) ∧ Hid (Blk wr bv (cellsI d) 43) ∧ Hid (w6.grownBy wr (some bv)))
      case atStart => exact ⟨0, bare K, Nat.zero_le _, rfl, rfl, rfl, Lib.hid rfl, Lib.hid HV6.out, Lib.hid (gby_refl _ _)⟩
      case round =>
        obtain ⟨i, d, hi, hg0, rfl, hd8, HD, HVr, HGr⟩ := hrel
        have hg0 := hg0.symm
        subst hg0
        by_cases hlt : i < m
        · obtain ⟨o, ho⟩ : ∃ o, (offs K)[i]? = some o := ⟨_, List.getElem?_eq_getElem (by rw [HM.out]; exact hlt)⟩
          obtain ⟨x, hx⟩ : ∃ x, N1[i]? = some x := ⟨_, List.getElem?_eq_getElem (by rw [HLEN.out]; exact hlt)⟩
          obtain ⟨b, cap, e1, b0, b1, d0, d1⟩ := OwnP.at HP6.out (by exact ho)
          rw [HM.out] at e1
          cases e1
          have ho8 := (HOFL.out o (List.mem_of_getElem? ho)).2
          obtain ⟨gc1, gc2⟩ := gcell HGr.out
          have hbne : ¬ b = bv := by have := HBL.out; omega
          have e0 := (gc1 b (2 * i) b1 hbne).trans d0
          have e1 := (gc1 b (2 * i + 1) b1 hbne).trans d1
          have el := (gc1 bl i HL2.out.2 (by have := HL2.out.1; omega)).trans (HLC.out i x hx)
          have HD2 : Hid (d.set o x = layZ ((offs K).take (i + 1)) (N1.take (i + 1)) (bare K)) := Lib.hid (by
            obtain ⟨h1, e⟩ := List.getElem?_eq_some_iff.1 ho
            obtain ⟨h2, e'⟩ := List.getElem?_eq_some_iff.1 hx
            rw [List.take_succ_eq_append_getElem h1, List.take_succ_eq_append_getElem h2, e, e', layZ_append _ _ _ _ _ (by rw [List.length_take, List.length_take]; omega), ← HD.out]
            rfl)
          have hm5 : m ≤ 5 := by have := offs_length K; have := HM.out; omega
          have hiI : (i : Int) < (m : Int) := by omega
          have hi0 : (0 : Int) ≤ (i : Int) := by omega
          have hmul : i * 2 = 2 * i := by omega
          obtain ⟨X, hX⟩ : ∃ X, strL (partW o) = X := ⟨_, rfl⟩
          rw [hX] at e0
          clear d0 d1 ho hx hX gc1 gc2 HD
          go_upto_region 12 with fail
          have HV10 := Lib.hid (HVr.out.alloc (.cells #[.string X, .pointer (some ⟨bv, o, none⟩)] 115))
          have HG10 := Lib.hid (gby_alloc HGr.out (.cells #[.string X, .pointer (some ⟨bv, o, none⟩)] 115))
          have p1 := (Blk.new wr #[.string X, .pointer (some ⟨bv, o, none⟩)] 115).cell (i := 1) rfl
          have l1 := keepA el (.cells #[.string X, .pointer (some ⟨bv, o, none⟩)] 115)
          have hnp0 : ¬ bv = wr.heap.size := by have := HVr.out.lt; omega
          have hnl : ¬ bv = bl := by have := HL2.out.1; omega
          obtain ⟨w10, hw10⟩ : ∃ w10, wr.alloc (.cells #[.string X, .pointer (some ⟨bv, o, none⟩)] 115) = w10 := ⟨_, rfl⟩
          obtain ⟨bp, hbp⟩ : ∃ b, wr.heap.size = b := ⟨_, rfl⟩
          rw [hw10] at HV10 HG10 p1 l1 ⊢
          rw [hbp] at p1 hnp0 ⊢
          have hnp : ¬ bv = bp := hnp0
          have hce := HV10.out.cell (cellsI_at (l := d) (i := o) (by omega))
          have hcf := HV10.out.free o
          clear hw10 hbp hnp0 e0 e1 el HVr HGr
          refine wp_region_held_drew (S := (fun w' => w'.cell? ⟨bp, 1, none⟩ = some (.pointer (some ⟨bv, o, none⟩)) ∧ w'.cell? ⟨bl, i, none⟩ = some (.int .i64 x))) (by kernel_rfl) ⟨p1, l1⟩ (fun hHeld => ?_)
          refine wpAnyH_take (i := 0) (oi := ({ dst := some 47, op := Op.fieldAddr 115 (Operand.tmp 11) 1, type := 0, pos := "phrase.go:84", after := #[], guard := none })) (v := (.pointer (some ⟨bp, 1, none⟩))) rfl (by kernel_rfl) (by kernel_rfl) (by kernel_rfl) (fun _ _ _ h => h) (Or.inl ⟨by rfl, ?_⟩) (by assumption) ?_
          · (intro w hSw; go_simp)
          try simp only [Act.put, List.setIfInBounds_toArray, List.set_cons_zero, List.set_cons_succ]
          refine wpAnyH_take (i := 1) (oi := ({ dst := some 48, op := Op.load 61 (Operand.tmp 47), type := 61, pos := "phrase.go:84", after := #[{ on := 0, ground := Ground.data }], guard := none })) (v := (.pointer (some ⟨bv, o, none⟩))) rfl (by kernel_rfl) (by kernel_rfl) (by kernel_rfl) (fun _ _ _ h => h) (Or.inl ⟨by rfl, ?_⟩) (by assumption) ?_
          · (intro w hSw; go_simp)
          try simp only [Act.put, List.setIfInBounds_toArray, List.set_cons_zero, List.set_cons_succ]
          refine wpAnyH_take (i := 2) (oi := ({ dst := some 49, op := Op.move (Operand.tmp 8), type := 60, pos := "phrase.go:84", after := #[], guard := none })) (v := (.slice (some ⟨bl, 0, none⟩) m lc)) rfl (by kernel_rfl) (by kernel_rfl) (by kernel_rfl) (fun _ _ _ h => h) (Or.inl ⟨by rfl, ?_⟩) (by assumption) ?_
          · (intro w hSw; go_simp)
          try simp only [Act.put, List.setIfInBounds_toArray, List.set_cons_zero, List.set_cons_succ]
          refine wpAnyH_take (i := 3) (oi := ({ dst := some 50, op := Op.move (Operand.tmp 10), type := 3, pos := "phrase.go:84", after := #[], guard := none })) (v := (.int .i64 i)) rfl (by kernel_rfl) (by kernel_rfl) (by kernel_rfl) (fun _ _ _ h => h) (Or.inl ⟨by rfl, ?_⟩) (by assumption) ?_
          · (intro w hSw; go_simp)
          try simp only [Act.put, List.setIfInBounds_toArray, List.set_cons_zero, List.set_cons_succ]
          refine wpAnyH_take (i := 4) (oi := ({ dst := some 51, op := Op.indexAddr 60 (Operand.tmp 49) (Operand.tmp 50), type := 0, pos := "phrase.go:84", after := #[{ on := 2, ground := Ground.data }, { on := 3, ground := Ground.data }], guard := none })) (v := (.pointer (some ⟨bl, i, none⟩))) rfl (by kernel_rfl) (by kernel_rfl) (by kernel_rfl) (fun _ _ _ h => h) (Or.inl ⟨by rfl, ?_⟩) (by assumption) ?_
          · (intro w hSw; go_simp)
          try simp only [Act.put, List.setIfInBounds_toArray, List.set_cons_zero, List.set_cons_succ]
          refine wpAnyH_take (i := 5) (oi := ({ dst := some 52, op := Op.load 3 (Operand.tmp 51), type := 3, pos := "phrase.go:84", after := #[{ on := 4, ground := Ground.data }], guard := none })) (v := (.int .i64 x)) rfl (by kernel_rfl) (by kernel_rfl) (by kernel_rfl) (fun _ _ _ h => h) (Or.inl ⟨by rfl, ?_⟩) (by assumption) ?_
          · (intro w hSw; go_simp)
          try simp only [Act.put, List.setIfInBounds_toArray, List.set_cons_zero, List.set_cons_succ]
          refine wpAnyH_take (i := 6) (oi := ({ dst := some 53, op := Op.nilCheck (Operand.tmp 48), type := 0, pos := "phrase.go:84", after := #[{ on := 1, ground := Ground.data }, { on := 0, ground := Ground.phase }, { on := 1, ground := Ground.phase }, { on := 2, ground := Ground.phase }, { on := 3, ground := Ground.phase }, { on := 4, ground := Ground.phase }, { on := 5, ground := Ground.phase }], guard := none })) (v := (.pointer (some ⟨bv, o, none⟩))) rfl (by kernel_rfl) (by kernel_rfl) (by kernel_rfl) (fun _ _ _ h => h) (Or.inl ⟨by rfl, ?_⟩) (by assumption) ?_
          · (intro w hSw; go_simp)
          try simp only [Act.put, List.setIfInBounds_toArray, List.set_cons_zero, List.set_cons_succ]
          refine wpAnyH_ready (rs := [7]) (by kernel_rfl) (by simp) (AllReadyH.cons (o := ({ dst := none, op := Op.store 3 (Operand.tmp 53) (Operand.tmp 52), type := 0, pos := "phrase.go:84", after := #[{ on := 6, ground := Ground.data }, { on := 5, ground := Ground.data }, { on := 0, ground := Ground.phase }, { on := 1, ground := Ground.phase }, { on := 2, ground := Ground.phase }, { on := 3, ground := Ground.phase }, { on := 4, ground := Ground.phase }, { on := 5, ground := Ground.phase }], guard := none })) rfl (fun K hK => ?_) AllReadyH.nil)
          go_simp
          clear hHeld
          refine hK.out _ _ ⟨(World.cell?_setCell_other _ _ _ _ (fun e => hnp (congrArg Addr.block e))).trans p1, (World.cell?_setCell_other _ _ _ _ (fun e => hnl (congrArg Addr.block e))).trans l1⟩ (fun hHeld => ?_)
          clear hK K
          try simp only [Act.put, List.setIfInBounds_toArray, List.set_cons_zero, List.set_cons_succ]
          refine wpAnyH_done (by kernel_rfl) ?_ _
          clear hHeld
          have HVn : Hid (Blk ((w10.drew).setCell ⟨bv, o, none⟩ (.int .i64 x)) bv (cellsI (d.set o x)) 43) := Lib.hid (by rw [← cellsI_set]; exact (HV10.out.drew).set o _)
          have HGn := Lib.hid (gby_set (gby_drew HG10.out) o (.int .i64 x))
          go_wp2_with fail
          go_roundg (m - (i + 1))
          case measure => omega
          case rel => exact ⟨i + 1, d.set o x, by omega, rfl, by go_num, by rw [List.length_set]; exact hd8, HD2, HVn, HGn⟩
        · obtain rfl : i = m := by omega
          have hD : d = layZ (offs K) N1 (bare K) := by rw [HD.out, List.take_of_length_le (by rw [HM.out]; exact Nat.le_refl _), List.take_of_length_le (by rw [HLEN.out]; exact Nat.le_refl _)]
          have CD := fun w => event_check d hd8 w
          have hs1 := HS1.out
          have hs2 := HS2.out
          rw [← hD] at hs1 hs2
          obtain ⟨d0, d1, d2, d3, d4, d5, d6, d7, rfl⟩ := eight_of hd8
          have e8 : cellsI [d0, d1, d2, d3, d4, d5, d6, d7] = #[.int .i64 d0, .int .i64 d1, .int .i64 d2, .int .i64 d3, .int .i64 d4, .int .i64 d5, .int .i64 d6, .int .i64 d7] := rfl
          rw [e8] at CD HVr
          obtain ⟨CK, hCK⟩ : ∃ c, checkL [d0, d1, d2, d3, d4, d5, d6, d7] = c := ⟨_, rfl⟩
          rw [hCK] at CD hs1 hs2
          have CD := Lib.hid CD
          have HT1 := Lib.hid hs1
          have HT2 := Lib.hid hs2
          have HAr : Hid (Blk wr n0 (cellsI (bare 0)) 43) := Lib.hid (HA6.out.gby HGr.out (by have := HBV.out; omega))
          have HBr : Hid (Below n0 w wr) := Lib.hid (HB6.out.trans (by have h := HGr.out; exact ⟨h.os, h.tape, h.output, h.size, fun k hk => h.block k (by have := HB2.out; have := HBV.out; omega) (by intro e; injection e with e; have := HBV.out; omega)⟩))
          clear hD hs1 hs2 hCK HD HS1 HS2 HA6 HB6 HGr
          have v0 := HVr.out.cell (i := 0) rfl
          have v1 := HVr.out.cell (i := 1) rfl
          have v2 := HVr.out.cell (i := 2) rfl
          have v3 := HVr.out.cell (i := 3) rfl
          have v4 := HVr.out.cell (i := 4) rfl
          have v5 := HVr.out.cell (i := 5) rfl
          have v6 := HVr.out.cell (i := 6) rfl
          have v7 := HVr.out.cell (i := 7) rfl
          go_wp2_with fail
          refine (CD.out _).mono ?_
          rintro e w7 ⟨rfl, hb7⟩
          have HA7 := Lib.hid (HAr.out.below hb7 HAr.out.lt)
          have HV7 := Lib.hid (HVr.out.below hb7 HVr.out.lt)
          have HB7 := Lib.hid (HBr.out.trans (hb7.mono (by have := HBr.out.size; have := HN0.out; omega)))
          clear hb7 v0 v1 v2 v3 v4 v5 v6 v7 HAr HVr HBr
          have v0 := HV7.out.cell (i := 0) rfl
          have v1 := HV7.out.cell (i := 1) rfl
          have v2 := HV7.out.cell (i := 2) rfl
          have v3 := HV7.out.cell (i := 3) rfl
          have v4 := HV7.out.cell (i := 4) rfl
          have v5 := HV7.out.cell (i := 5) rfl
          have v6 := HV7.out.cell (i := 6) rfl
          have v7 := HV7.out.cell (i := 7) rfl
          by_cases hck : CK = 0
          · have HR := Lib.hid (HT1.out hck)
            subst hck
            clear HT1 HT2
            go_wp2_with (with_reducible refine ev_store rfl 43 (.tmp 2) (.tmp 59) rfl n0 (cellsI [d0, d1, d2, d3, d4, d5, d6, d7]) rfl rfl 43 _ HA7.out (by kernel_rfl) rfl (cellsI_one _) ?_; intro w9 hb9 hc9 hz9)
            refine bodyPost_ret (res_ct rfl _ n0 43 (cellsI [d0, d1, d2, d3, d4, d5, d6, d7]) _ rfl hb9 hu rfl (info_event _ rfl)) rfl ⟨by rw [(Prod.mk.inj HR.out).1, (Prod.mk.inj HR.out).2]; rfl, ?_⟩
            exact Chg.belowOf HB7.out hc9 (fun k hk => by omega) (by have := HB7.out.size; have := HN0.out; omega)
          · have HR := Lib.hid (HT2.out hck)
            have hne : (CK == 0) = false := by simp [hck]
            have hne2 : (CK != 0) = true := by simp [hck]
            clear HT1 HT2
            go_wp2_with (with_reducible refine ev_store rfl 43 (.tmp 2) (.tmp 58) rfl n0 (cellsI (bare 0)) rfl rfl 43 _ HA7.out (by kernel_rfl) rfl (cellsI_one _) ?_; intro w9 hb9 hc9 hz9)
            refine bodyPost_ret (res_ct rfl _ n0 43 (cellsI (bare 0)) _ rfl hb9 hu rfl (info_event _ rfl)) rfl ⟨by rw [(Prod.mk.inj HR.out).1, (Prod.mk.inj HR.out).2]; rfl, ?_⟩
            exact Chg.belowOf HB7.out hc9 (fun k hk => by omega) (by have := HB7.out.size; have := HN0.out; omega)
    · have HR := Lib.hid (HPK2.out rfl)
      clear HPK HPK2
      go_wp2_with (with_reducible refine ev_store rfl 43 (.tmp 2) (.tmp 38) rfl n0 (cellsI (bare 0)) rfl rfl 43 _ HA6.out (by kernel_rfl) rfl (cellsI_one _) ?_; intro w9 hb9 hc9 hz9)
      refine bodyPost_ret (res_ct rfl _ n0 43 (cellsI (bare 0)) _ rfl hb9 hu rfl (info_event _ rfl)) rfl ⟨by rw [(Prod.mk.inj HR.out).1, (Prod.mk.inj HR.out).2]; rfl, ?_⟩
      exact Chg.belowOf HB6.out hc9 (fun k hk => by omega) (by have := HB6.out.size; have := HN0.out; omega)
  · have HR := Lib.hid (HPR.out.symm.trans (parseR_none (fun j h1 h2 h3 => hno j h1 h2 (by unfold wordR; cases WS with | nil => simp at h3 | cons a r => simp at h3 ⊢; exact h3))))
    clear hno HFK
    go_wp2_with (with_reducible refine ev_store rfl 43 (.tmp 2) (.tmp 21) rfl n0 (cellsI (bare 0)) rfl rfl 43 _ HA1.out (by kernel_rfl) rfl (cellsI_one _) ?_; intro w9 hb9 hc9 hz9)
    refine bodyPost_ret (res_ct rfl _ n0 43 (cellsI (bare 0)) _ rfl hb9 hu rfl (info_event _ rfl)) rfl ⟨by rw [(Prod.mk.inj HR.out).1, (Prod.mk.inj HR.out).2]; rfl, ?_⟩
    exact Chg.belowOf HB1.out hc9 (fun k hk => by omega) (by have := HB1.out.size; have := HN0.out; omega)
end Go.Proofs.YtanihdpgblkeaaaGreatDoor
