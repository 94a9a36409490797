/-
  Messages as texts (reeve's layer 36): the program's Parse.
-/
import Derived.Test.YtanihdpgblkeaaaGreatDoorLetterLine
import Derived.Test.YtanihdpgblkeaaaGreatDoorLetterCut
import Derived.Test.YtanihdpgblkeaaaGreatDoorRowAll
namespace Go.Proofs.YtanihdpgblkeaaaGreatDoor
open Go.RowKit
set_option linter.unusedVariables false
set_option linter.unusedSimpArgs false

/-- The kinds' words, as the program's variable holds them. -/
def kindsLM : List (List UInt8) := [kindWM 1, kindWM 2, kindWM 3, kindWM 4, kindWM 5, kindWM 6, kindWM 7, kindWM 8]
theorem kindsLM_at (k : Nat) (h : k < 8) : kindsLM[k]? = some (kindWM (k + 1 : Nat)) := by
  have ha : k = 0 ∨ k = 1 ∨ k = 2 ∨ k = 3 ∨ k = 4 ∨ k = 5 ∨ k = 6 ∨ k = 7 := by omega
  rcases ha with rfl | rfl | rfl | rfl | rfl | rfl | rfl | rfl <;> rfl
theorem kinds_rowM {w : World} (h : LaidL w) : RowS w (.slice (some ⟨0, 0, none⟩) 8 8) (kindsLM.map strL) := by
  refine .inr ⟨0, 0, 8, rfl, h.lt, fun j x hj => ?_, by simp [kindsLM]⟩
  have hj7 : j < 8 := by have := (List.getElem?_eq_some_iff.1 hj).1; simpa [kindsLM] using this
  rw [Nat.zero_add, h.kinds j hj7]
  rw [List.getElem?_map, kindsLM_at j hj7] at hj
  injection hj with hj
  rw [← hj]
/-- Which kind a word is. -/
theorem find_kindM (x : List UInt8) : (∃ q : Nat, q < 8 ∧ x = kindWM (q + 1 : Nat) ∧ findI (kindsLM.map strL) (strL x) = q ∧ findB (kindsLM.map strL) (strL x) = true) ∨ ((∀ j : Nat, 1 ≤ j → j ≤ 8 → x ≠ kindWM j) ∧ findB (kindsLM.map strL) (strL x) = false) := by
  have hget : ∀ j, j < 8 → (kindsLM.map strL).getD j ByteArray.empty = strL (kindWM (j + 1 : Nat)) := by
    intro j hj
    rw [List.getD_eq_getElem?_getD, List.getElem?_map, kindsLM_at j hj]
    rfl
  by_cases h : ∃ q : Nat, q < 8 ∧ x = kindWM (q + 1 : Nat)
  · obtain ⟨q, hq, rfl⟩ := h
    have hi : Lib.idxOfS (kindsLM.map strL) (strL (kindWM (q + 1 : Nat))) = ((0 + q : Nat) : Int) := by
      refine Lib.idxFromS_hit _ _ q 0 (by simpa [kindsLM] using hq) (hget q hq) (fun j hj => ?_)
      rw [hget j (by omega)]
      intro e
      have := kindWM_inj (by omega) (by omega) (strL_inj e)
      omega
    rw [Nat.zero_add] at hi
    refine .inl ⟨q, hq, rfl, ?_, ?_⟩
    · unfold findI; rw [hi]; omega
    · unfold findB; rw [hi]; exact decide_eq_true (by omega)
  · have hn : ∀ j : Nat, 1 ≤ j → j ≤ 8 → x ≠ kindWM j := by
      intro j h1 h2 e
      exact h ⟨j - 1, by omega, by rw [show j - 1 + 1 = j by omega]; exact e⟩
    refine .inr ⟨hn, ?_⟩
    have hi : Lib.idxOfS (kindsLM.map strL) (strL x) = -1 := by
      refine Lib.idxFromS_miss _ _ _ (fun k hk => ?_)
      have hk7 : k < 8 := by simpa [kindsLM] using hk
      rw [hget k hk7]
      intro e
      exact hn (k + 1) (by omega) (by omega) (strL_inj e).symm
    unfold findB; rw [hi]; exact decide_eq_false (by omega)
theorem rowR_errM (ws : List (List UInt8)) (word : List UInt8) (names : List (List UInt8)) : (rowR ws word names).2 = 0 ∨ (rowR ws word names).2 = 2 := by
  unfold rowR
  split
  · split
    · exact .inl rfl
    · exact .inr rfl
  · exact .inr rfl
theorem rowR_lengthM {ws : List (List UInt8)} {word : List UInt8} {names : List (List UInt8)} (h : (rowR ws word names).2 = 0) : (rowR ws word names).1.length = names.length := by
  unfold rowR at *
  split at h
  · rename_i h2
    rw [if_pos h2]
    split at h
    · rename_i ns h3
      have := allO_length _ _ h3
      rw [List.length_zipWith, List.length_tail, h2.1] at this
      simp only; omega
    · simp at h
  · simp at h
theorem parseM_short {ws : List (List UInt8)} (h : ws.length < 3) : parseM ws = (bare3 0 0 0, 2) := by unfold parseM; rw [if_pos h]
theorem parseM_names {x0 x1 x2 : List UInt8} {r : List (List UInt8)} (h : ¬ ((parseN x1).2 = true ∧ (parseN x2).2 = true)) : parseM (x0 :: x1 :: x2 :: r) = (bare3 0 0 0, 2) := by
  unfold parseM
  rw [if_neg (by simp)]
  exact if_neg h
theorem parseM_three {x0 x1 x2 : List UInt8} {r : List (List UInt8)} (h1 : (parseN x1).2 = true) (h2 : (parseN x2).2 = true) : parseM (x0 :: x1 :: x2 :: r) = parseGM (parseN x1).1 (parseN x2).1 (x0 :: r) := by
  unfold parseM
  rw [if_neg (by simp)]
  exact if_pos ⟨h1, h2⟩
theorem parseM_kind {x0 x1 x2 : List UInt8} {r : List (List UInt8)} (h : ∀ j : Nat, 1 ≤ j → j ≤ 8 → x0 ≠ kindWM j) : parseM (x0 :: x1 :: x2 :: r) = (bare3 0 0 0, 2) := by
  by_cases hn : (parseN x1).2 = true ∧ (parseN x2).2 = true
  · rw [parseM_three hn.1 hn.2]
    exact parseGM_none (fun j h1 h2 h3 => h j h1 h2 (by simpa using h3))
  · exact parseM_names hn
set_option maxRecDepth 100000 in
set_option maxHeartbeats 12800000 in
theorem letter_parse (s : ByteArray) (hs : s.size ≤ 50000) (w : World) (hL : LaidL w) :
    Calls Tryz.prog 11 #[.string s] w fun e w' => e = .returned (.tuple #[.agg (cellsI (parseM (wordsL s.data.toList)).1), .int .i64 (parseM (wordsL s.data.toList)).2]) ∧ Below w.heap.size w w' := by
  obtain ⟨i0, hi, hz, hsize, hby⟩ : ∃ i, Tryz.prog.info? 9 = some i ∧ i.zero = some (.string ⟨#[]⟩) ∧ i.size = 1 ∧ i.bytes = 16 := ⟨_, rfl, rfl, rfl, rfl⟩
  have HII := Lib.hid hi
  clear hi
  have hu := Tryz.underlying25
  have hok := words_ok s.data.toList
  have hsum := words_sum s.data.toList
  rw [Lib.size_eq] at hs
  have WW0 := fun wx => words_words s (by rw [Lib.size_eq]; omega) wx
  generalize wordsL s.data.toList = WS at *
  obtain ⟨PR, hPR⟩ : ∃ R, parseM WS = R := ⟨_, rfl⟩
  rw [hPR]
  obtain ⟨PV, PE⟩ := PR
  have HPR := Lib.hid hPR
  have WW := Lib.hid WW0
  have HOK := Lib.hid hok
  have HSUM := Lib.hid (Nat.le_trans hsum (show _ ≤ 50001 by omega))
  obtain ⟨n0, hn0⟩ : ∃ n, w.heap.size = n := ⟨_, rfl⟩
  obtain ⟨W, hW⟩ : ∃ W, w.alloc (.cells (cellsI (bare3 0 0 0)) 25) = W := ⟨_, rfl⟩
  have HA0 : Hid (Blk W n0 (cellsI (bare3 0 0 0)) 25) := Lib.hid (by rw [← hW, ← hn0]; exact Blk.new w _ _)
  have hl0 : Below w.heap.size w W := by rw [← hW]; exact (Below.refl w.heap.size w).alloc (Nat.le_refl _) _
  have HL0 : Hid (Below n0 w W) := Lib.hid (by rw [← hn0]; exact hl0)
  have HL := Lib.hid (hL.below hl0)
  have LZ : Hid (∀ wx, Below n0 w wx → LaidL wx) := Lib.hid (fun wx h => hL.below (by rw [hn0]; exact h))
  have HW : Hid (w.alloc (.cells #[.int .i64 0, .int .i64 0, .int .i64 0, .int .i64 0, .int .i64 0, .int .i64 0, .int .i64 0, .int .i64 0, .int .i64 0, .int .i64 0, .int .i64 0, .int .i64 0] 25) = W) := Lib.hid hW
  have HN0 := Lib.hid hn0
  rw [hn0]
  clear hW hn0 hPR WW0 hl0 hL hok hsum hs
  go_enter Tryz.func11, Tryz.ntmps11
  go_upto_region 1 with fail
  rw [HW.out]
  try rw [HN0.out]
  clear HW
  go_wp2_with fail
  refine (WW.out _).mono ?_
  rintro e w2 ⟨vw, rfl, hvw, hb2⟩
  have HA2 := Lib.hid (HA0.out.below hb2 HA0.out.lt)
  have HB2 := Lib.hid (HL0.out.trans (hb2.mono (by have := HL0.out.size; have := HN0.out; omega)))
  have HL2 := Lib.hid (HL.out.below hb2)
  have HVW := Lib.hid hvw
  obtain ⟨pw, cw, rfl⟩ := hvw.row.len
  rw [List.length_map]
  obtain ⟨nw, hnw⟩ : ∃ n, WS.length = n := ⟨_, rfl⟩
  rw [hnw]
  rw [List.length_map, hnw] at HVW
  clear hb2 hvw HA0 HL0 HL WW
  by_cases h3 : nw < 3
  · have h3I : (nw : Int) < 3 := by omega
    have HR := Lib.hid (HPR.out.symm.trans (parseM_short (by omega)))
    clear hnw h3
    go_wp2_with (with_reducible refine ev_store rfl 25 (.tmp 2) (.tmp 22) rfl n0 (cellsI (bare3 0 0 0)) rfl rfl 25 _ HA2.out (by kernel_rfl) rfl (cellsI_one _) ?_; intro w9 hb9 hc9 hz9)
    refine bodyPost_ret (res_ct rfl _ n0 25 (cellsI (bare3 0 0 0)) _ rfl hb9 hu rfl (info_msg _ rfl)) rfl ⟨by rw [(Prod.mk.inj HR.out).1, (Prod.mk.inj HR.out).2]; rfl, ?_⟩
    exact Chg.belowOf HB2.out hc9 (fun k hk => by omega) (by have := HB2.out.size; have := HN0.out; omega)
  have h3I : ¬ (nw : Int) < 3 := by omega
  obtain ⟨x0, x1, x2, r, hws⟩ : ∃ x0 x1 x2 r, WS = x0 :: x1 :: x2 :: r := by
    match WS, hnw with
    | [], h => simp at h; omega
    | [_], h => simp at h; omega
    | [_, _], h => simp at h; omega
    | a :: b :: c :: r, _ => exact ⟨a, b, c, r, rfl⟩
  obtain ⟨nr, hnr⟩ : ∃ n, r.length = n := ⟨_, rfl⟩
  have hnw3 : nw = nr + 3 := by rw [← hnw, hws, ← hnr]; rfl
  obtain ⟨gw, cells, hpw, hgl, hcw⟩ : ∃ g : Nat, ∃ _ : Unit, pw = some ⟨g, 0, none⟩ ∧ g < w2.heap.size ∧ nw ≤ cw := by
    obtain ⟨_, ⟨h2, _⟩ | ⟨g, cap, cur, h2, h3, h4, h5, _⟩⟩ := HVW.out
    · injection h2 with _ h2 _; omega
    · injection h2 with h2 _ h6; rw [h6]; exact ⟨g, (), h2, (Array.getElem?_eq_some_iff.1 h4).1, by rw [List.length_map, hnw] at h5; exact h5⟩
  subst hpw
  have hcells : ∀ j y, WS[j]? = some y → w2.cell? ⟨gw, j, none⟩ = some (.string (strL y)) := by
    intro j y hy
    have h := World.ownsRow.cells HVW.out (g := gw) rfl j (.string (strL y)) (by rw [List.getElem?_map, List.getElem?_map, hy]; rfl)
    have e : (⟨gw, 0, none⟩ : Addr).add j = ⟨gw, j, none⟩ := by simp [Addr.add]; intro h; exact h.symm
    rw [e] at h
    exact h
  have cw0 := hcells 0 x0 (by rw [hws]; rfl)
  have cw1 := hcells 1 x1 (by rw [hws]; rfl)
  have cw2 := hcells 2 x2 (by rw [hws]; rfl)
  obtain ⟨ad, cr, had⟩ : ∃ (ad : Addr) (cr : Nat), (ad = ⟨gw, 0, none⟩ ∧ cr = 0 ∧ cw = 3 ∧ nr = 0) ∨ (ad = ⟨gw, 3, none⟩ ∧ cr = cw - 3 ∧ 3 < cw) := by
    by_cases h : cw = 3
    · exact ⟨_, _, .inl ⟨rfl, rfl, h, by omega⟩⟩
    · exact ⟨_, _, .inr ⟨rfl, rfl, by omega⟩⟩
  have hrc : ∀ j y, (r.map strL)[j]? = some y → w2.cell? (ad.add j) = some (.string y) := by
    intro j y hj
    rw [List.getElem?_map] at hj
    cases hy : r[j]? with
    | none => rw [hy] at hj; cases hj
    | some z =>
      rw [hy] at hj
      injection hj with hj
      rw [← hj]
      have hjr := (List.getElem?_eq_some_iff.1 hy).1
      rcases had with ⟨_, _, _, h0⟩ | ⟨rfl, _, _⟩
      · omega
      · have e : (⟨gw, 3, none⟩ : Addr).add j = ⟨gw, j + 3, none⟩ := by unfold Addr.add; split <;> simp_all <;> omega
        rw [e]
        exact hcells (j + 3) z (by rw [hws]; exact hy)
  have HRC := Lib.hid hrc
  have hokA : ∀ y ∈ x0 :: x1 :: x2 :: r, okW y := by rw [← hws]; exact HOK.out
  have hok2 : ∀ y ∈ x0 :: r, okW y := fun y hy => hokA y (by rcases List.mem_cons.1 hy with rfl | h; simp; simp [h])
  have hsm : sumW (x0 :: x1 :: x2 :: r) ≤ 50001 := by rw [← hws]; exact HSUM.out
  simp only [sumW_cons] at hsm
  have hx1 : (strL x1).size ≤ 100000 := by rw [strL_size]; omega
  have hx2 : (strL x2).size ≤ 100000 := by rw [strL_size]; omega
  have hjl : (Lib.join (x0 :: r) [32]).length ≤ 50000 := by have := join_len x0 r; rw [sumW_cons] at this; omega
  have hrl : r.length ≤ 100000 := by
    have : r.length ≤ sumW r := by
      clear hsm hws hok2 hokA hrc HRC hjl hnr
      induction r with
      | nil => simp
      | cons y r ih => rw [sumW_cons, List.length_cons]; omega
    omega
  have hjw := join_ok x0 r hok2
  have HNR : Hid ((r.map strL).length = nr) := Lib.hid (by rw [List.length_map]; exact hnr)
  have HNR2 : Hid (nr ≤ 1000000) := Lib.hid (by omega)
  have HAD : Hid ((ad = ⟨gw, 0, none⟩ ∧ cr = 0 ∧ (nw : Int) - 3 = (nr : Int) ∧ (cw : Int) = 3 ∧ nr = 0 ∧ nw = 3) ∨ (ad = ⟨gw, 3, none⟩ ∧ cr = cw - 3 ∧ (nw : Int) - 3 = (nr : Int) ∧ (3 : Int) < cw ∧ 3 < cw ∧ nw = nr + 3)) := Lib.hid (by
    rcases had with ⟨h1, h2, h3, h4⟩ | ⟨h1, h2, h3⟩
    · exact .inl ⟨h1, h2, by omega, by omega, h4, by omega⟩
    · exact .inr ⟨h1, h2, by omega, by omega, h3, hnw3⟩)
  have hfk := find_kindM x0
  have FD0 := fun (wx : World) (h : LaidL wx) => words_find (strL x0) _ (kindsLM.map strL) wx (kinds_rowM h) (by simp [kindsLM])
  have JN0 := fun (wx : World) (v : Value) (h : RowS wx v (strL x0 :: r.map strL)) => words_joined v (x0 :: r) wx (by exact h) (by simp; omega) (by omega)
  have RP0 := fun (q : Nat) (hx : x0 = kindWM (q : Int)) (wx : World) (vn : Value) (h : RowS wx vn ((namesWM (q : Int)).map strL)) (hl : Laid wx) => row_parse_own (strL (Lib.join (x0 :: r) [32])) (kindWM (q : Int)) vn (namesWM (q : Int)) wx (by rw [strL_size]; omega) h (by have := (namesWM_len q).1; omega) (namesWM_len q).2 hl
  rw [strL_list, hjw] at RP0
  have P1 := fun wx h => msg_parseName (strL x1) hx1 wx h
  have P2 := fun wx h => msg_parseName (strL x2) hx2 wx h
  rw [strL_list] at P1 P2
  have hpm1 := @parseM_names x0 x1 x2 r
  have hpm3 := @parseM_three x0 x1 x2 r
  have hpmk := @parseM_kind x0 x1 x2 r
  rw [← hws, HPR.out] at hpm1 hpm3 hpmk
  generalize parseN x1 = PN1 at P1 hpm1 hpm3
  generalize parseN x2 = PN2 at P2 hpm1 hpm3
  obtain ⟨PF, B1⟩ := PN1
  obtain ⟨PT, B2⟩ := PN2
  simp only at P1 P2 hpm1 hpm3
  obtain ⟨JS, hJS⟩ : ∃ S, strL (Lib.join (x0 :: r) [32]) = S := ⟨_, rfl⟩
  rw [hJS] at JN0 RP0
  have HFK := Lib.hid hfk
  generalize findI (kindsLM.map strL) (strL x0) = FI at *
  generalize findB (kindsLM.map strL) (strL x0) = FB at *
  obtain ⟨X0, hX0⟩ : ∃ X, strL x0 = X := ⟨_, rfl⟩
  rw [hX0] at FD0 JN0 cw0
  have HX0 := Lib.hid hX0
  have FD := Lib.hid FD0
  have JN := Lib.hid JN0
  have HRP := Lib.hid RP0
  have P1 := Lib.hid P1
  have P2 := Lib.hid P2
  have HP1 := Lib.hid hpm1
  have HP3 := Lib.hid hpm3
  have HPK := Lib.hid hpmk
  have hc0 : (0 : Int) < (nw : Int) := by omega
  have hc1 : (1 : Int) < (nw : Int) := by omega
  have hc2 : (2 : Int) < (nw : Int) := by omega
  have hcwI : (nw : Int) ≤ (cw : Int) := by omega
  have hcw1 : (1 : Int) ≤ (cw : Int) := by omega
  have hw0 : Below w2.heap.size w2 w2.drew := ⟨rfl, rfl, rfl, Nat.le_refl _, fun _ _ => rfl⟩
  have HGL := Lib.hid hgl
  obtain ⟨XS1, hXS1⟩ : ∃ X, strL x1 = X := ⟨_, rfl⟩
  obtain ⟨XS2, hXS2⟩ : ∃ X, strL x2 = X := ⟨_, rfl⟩
  rw [hXS1] at cw1 P1
  rw [hXS2] at cw2 P2
  clear hws hcells had hrc hokA hok2 hsm hx1 hx2 hjl hrl hjw hfk FD0 JN0 RP0 hpm1 hpm3 hpmk hJS hX0 HVW HOK HSUM hnw hnr h3 hnw3 hcw hXS1 hXS2
  go_upto_region 4 with fail
  refine wp_region_held_drew (S := (fun w' => w'.cell? ⟨gw, 0, none⟩ = some (.string X0))) (by kernel_rfl) cw0 (fun hHeld => ?_)
  refine wpAnyH_take (i := 0) (oi := ({ dst := some 24, op := Op.move (Operand.tmp 4), type := 67, pos := "letter.go:83", after := #[], guard := none })) (v := (.slice (some ⟨gw, 0, none⟩) nw cw)) rfl (by kernel_rfl) (by kernel_rfl) (by kernel_rfl) (fun _ _ _ h => h) (Or.inl ⟨by rfl, ?_⟩) (by assumption) ?_
  · (intro w hSw; go_simp; try (intro h0; exfalso; omega))
  try simp only [Act.put, List.setIfInBounds_toArray, List.set_cons_zero, List.set_cons_succ]
  refine wpAnyH_take (i := 1) (oi := ({ dst := some 25, op := Op.indexAddr 67 (Operand.tmp 24) (Operand.const (Value.int IntKind.i64 0)), type := 0, pos := "letter.go:83", after := #[{ on := 0, ground := Ground.data }], guard := none })) (v := (.pointer (some ⟨gw, 0, none⟩))) rfl (by kernel_rfl) (by kernel_rfl) (by kernel_rfl) (fun _ _ _ h => h) (Or.inl ⟨by rfl, ?_⟩) (by assumption) ?_
  · (intro w hSw; go_simp; try (intro h0; exfalso; omega))
  try simp only [Act.put, List.setIfInBounds_toArray, List.set_cons_zero, List.set_cons_succ]
  refine wpAnyH_take (i := 2) (oi := ({ dst := some 26, op := Op.load 9 (Operand.tmp 25), type := 9, pos := "letter.go:83", after := #[{ on := 1, ground := Ground.data }], guard := none })) (v := (.string X0)) rfl (by kernel_rfl) (by kernel_rfl) (by kernel_rfl) (fun _ _ _ h => h) (Or.inl ⟨by rfl, ?_⟩) (by assumption) ?_
  · (intro w hSw; go_simp; try (intro h0; exfalso; omega))
  try simp only [Act.put, List.setIfInBounds_toArray, List.set_cons_zero, List.set_cons_succ]
  refine wpAnyH_take (i := 3) (oi := ({ dst := some 27, op := Op.slice 76 (Operand.global 0) none none none, type := 67, pos := "letter.go:83", after := #[], guard := none })) (v := (.slice (some ⟨0, 0, none⟩) 8 8)) rfl (by kernel_rfl) (by kernel_rfl) (by kernel_rfl) (fun _ _ _ h => h) (Or.inl ⟨by rfl, ?_⟩) (by assumption) ?_
  · (intro w hSw; go_simp; try (intro h0; exfalso; omega))
  try simp only [Act.put, List.setIfInBounds_toArray, List.set_cons_zero, List.set_cons_succ]
  refine wpAnyH_ready (rs := [4]) (by kernel_rfl) (by simp) (AllReadyH.cons (o := ({ dst := some 28, op := Op.call { callee := Callee.value (Operand.func 42), args := #[Operand.tmp 26, Operand.tmp 27], argTypes := #[9, 67] }, type := 74, pos := "letter.go:83", after := #[{ on := 2, ground := Ground.data }, { on := 3, ground := Ground.data }], guard := none })) rfl (fun K hK => ?_) AllReadyH.nil)
  go_simp
  refine (FD.out _ (HL2.out.below hw0)).mono ?_
  rintro e wc ⟨rfl, rfl⟩
  go_wp2_with fail
  clear hHeld
  refine hK.out _ _ (keepB hw0 cw0 hgl) (fun hHeld => ?_)
  clear hK K
  try simp only [Act.put, List.setIfInBounds_toArray, List.set_cons_zero, List.set_cons_succ]
  refine wpAnyH_take (i := 5) (oi := ({ dst := some 23, op := Op.move (Operand.tmp 28), type := 74, pos := "letter.go:83", after := #[{ on := 4, ground := Ground.data }], guard := none })) (v := (.tuple #[.int .i64 FI, .bool FB])) rfl (by kernel_rfl) (by kernel_rfl) (by kernel_rfl) (fun _ _ _ h => h) (Or.inl ⟨by rfl, ?_⟩) (by assumption) ?_
  · (intro w hSw; go_simp; try (intro h0; exfalso; omega))
  try simp only [Act.put, List.setIfInBounds_toArray, List.set_cons_zero, List.set_cons_succ]
  refine wpAnyH_take (i := 6) (oi := ({ dst := some 29, op := Op.extract (Operand.tmp 23) 0, type := 3, pos := "letter.go:83", after := #[{ on := 5, ground := Ground.data }], guard := none })) (v := (.int .i64 FI)) rfl (by kernel_rfl) (by kernel_rfl) (by kernel_rfl) (fun _ _ _ h => h) (Or.inl ⟨by rfl, ?_⟩) (by assumption) ?_
  · (intro w hSw; go_simp; try (intro h0; exfalso; omega))
  try simp only [Act.put, List.setIfInBounds_toArray, List.set_cons_zero, List.set_cons_succ]
  refine wpAnyH_take (i := 7) (oi := ({ dst := some 30, op := Op.extract (Operand.tmp 23) 1, type := 4, pos := "letter.go:83", after := #[{ on := 5, ground := Ground.data }, { on := 8, ground := Ground.gcOnly Departure.lateStores }], guard := none })) (v := (.bool FB)) rfl (by kernel_rfl) (by kernel_rfl) (by kernel_rfl) (fun _ _ _ h => h) (Or.inl ⟨by rfl, ?_⟩) (by assumption) ?_
  · (intro w hSw; go_simp; try (intro h0; exfalso; omega))
  try simp only [Act.put, List.setIfInBounds_toArray, List.set_cons_zero, List.set_cons_succ]
  refine wpAnyH_take (i := 8) (oi := ({ dst := some 5, op := Op.assign (Operand.tmp 29), type := 3, pos := "letter.go:83", after := #[{ on := 6, ground := Ground.data }, { on := 4, ground := Ground.chain }, { on := 0, ground := Ground.phase }, { on := 1, ground := Ground.phase }, { on := 2, ground := Ground.phase }, { on := 3, ground := Ground.phase }, { on := 4, ground := Ground.phase }, { on := 5, ground := Ground.phase }, { on := 6, ground := Ground.phase }, { on := 7, ground := Ground.textOnly Departure.lateStores }], guard := none })) (v := (.int .i64 FI)) rfl (by kernel_rfl) (by kernel_rfl) (by kernel_rfl) (fun _ _ _ h => h) (Or.inl ⟨by rfl, ?_⟩) (by assumption) ?_
  · (intro w hSw; go_simp; try (intro h0; exfalso; omega))
  try simp only [Act.put, List.setIfInBounds_toArray, List.set_cons_zero, List.set_cons_succ]
  refine wpAnyH_take (i := 9) (oi := ({ dst := some 6, op := Op.assign (Operand.tmp 30), type := 4, pos := "letter.go:83", after := #[{ on := 7, ground := Ground.data }, { on := 8, ground := Ground.chain }, { on := 0, ground := Ground.phase }, { on := 1, ground := Ground.phase }, { on := 2, ground := Ground.phase }, { on := 3, ground := Ground.phase }, { on := 4, ground := Ground.phase }, { on := 5, ground := Ground.phase }, { on := 6, ground := Ground.phase }, { on := 7, ground := Ground.phase }, { on := 8, ground := Ground.phase }], guard := none })) (v := (.bool FB)) rfl (by kernel_rfl) (by kernel_rfl) (by kernel_rfl) (fun _ _ _ h => h) (Or.inl ⟨by rfl, ?_⟩) (by assumption) ?_
  · (intro w hSw; go_simp; try (intro h0; exfalso; omega))
  try simp only [Act.put, List.setIfInBounds_toArray, List.set_cons_zero, List.set_cons_succ]
  refine wpAnyH_done (by kernel_rfl) ?_ _
  clear hHeld
  have cx1 := keepB hw0 cw1 hgl
  have cx2 := keepB hw0 cw2 hgl
  have HA3 := Lib.hid (HA2.out.below hw0 HA2.out.lt)
  have HB3 := Lib.hid (HB2.out.trans (hw0.mono (by have := HB2.out.size; have := HN0.out; omega)))
  have HL3 := Lib.hid (HL2.out.below hw0)
  have HD3 := Lib.hid hw0
  clear hw0 HA2 HB2
  go_wp2_with fail
  refine (P1.out _ HL3.out.laid).mono ?_
  rintro e w4 ⟨rfl, hb4⟩
  have HA4 := Lib.hid (HA3.out.below hb4 HA3.out.lt)
  have HB4 := Lib.hid (HB3.out.trans (hb4.mono (by have := HB3.out.size; have := HN0.out; omega)))
  have HL4 := Lib.hid (HL3.out.below hb4)
  have HD4 := Lib.hid (HD3.out.trans (hb4.mono HD3.out.size))
  have cy2 := keepB HD4.out cw2 hgl
  clear hb4 HA3 HB3 HL3 HD3 cx1 cx2 P1
  go_wp2_with fail
  refine (P2.out _ HL4.out.laid).mono ?_
  rintro e w5 ⟨rfl, hb5⟩
  have HA5 := Lib.hid (HA4.out.below hb5 HA4.out.lt)
  have HB5 := Lib.hid (HB4.out.trans (hb5.mono (by have := HB4.out.size; have := HN0.out; omega)))
  have HL5 := Lib.hid (HL4.out.below hb5)
  have HD5 := Lib.hid (HD4.out.trans (hb5.mono HD4.out.size))
  clear hb5 HA4 HB4 HL4 HD4 cy2 P2
  rcases HFK.out with ⟨q, hq7, hxk, rfl, rfl⟩ | ⟨hno, rfl⟩
  · cases B1 with
    | false =>
      have HR := Lib.hid (HP1.out (by simp))
      clear HFK HRP HPK HP1 HP3
      go_wp2_with (with_reducible refine ev_store rfl 25 (.tmp 2) (.tmp 55) rfl n0 (cellsI (bare3 0 0 0)) rfl rfl 25 _ HA5.out (by kernel_rfl) rfl (cellsI_one _) ?_; intro w9 hb9 hc9 hz9)
      refine bodyPost_ret (res_ct rfl _ n0 25 (cellsI (bare3 0 0 0)) _ rfl hb9 hu rfl (info_msg _ rfl)) rfl ⟨by rw [(Prod.mk.inj HR.out).1, (Prod.mk.inj HR.out).2]; rfl, ?_⟩
      exact Chg.belowOf HB5.out hc9 (fun k hk => by omega) (by have := HB5.out.size; have := HN0.out; omega)
    | true =>
    cases B2 with
    | false =>
      have HR := Lib.hid (HP1.out (by simp))
      clear HFK HRP HPK HP1 HP3
      go_wp2_with (with_reducible refine ev_store rfl 25 (.tmp 2) (.tmp 55) rfl n0 (cellsI (bare3 0 0 0)) rfl rfl 25 _ HA5.out (by kernel_rfl) rfl (cellsI_one _) ?_; intro w9 hb9 hc9 hz9)
      refine bodyPost_ret (res_ct rfl _ n0 25 (cellsI (bare3 0 0 0)) _ rfl hb9 hu rfl (info_msg _ rfl)) rfl ⟨by rw [(Prod.mk.inj HR.out).1, (Prod.mk.inj HR.out).2]; rfl, ?_⟩
      exact Chg.belowOf HB5.out hc9 (fun k hk => by omega) (by have := HB5.out.size; have := HN0.out; omega)
    | true =>
    obtain ⟨K, hK⟩ : ∃ K : Int, (q : Int) + 1 = K := ⟨_, rfl⟩
    have hKn : ((q + 1 : Nat) : Int) = K := by rw [← hK]; push_cast; rfl
    have hK17 : 1 ≤ K ∧ K ≤ 8 := by omega
    rw [hKn] at hxk
    have hpr : (PV, PE) = match parseKM K PF PT (x0 :: r) with
      | some v => (v, 0)
      | none => (bare3 0 0 0, 2) := by
      have := parseGM_at (ws := x0 :: r) (f := PF) (t := PT) (q := q + 1) (by omega) (by rw [hKn, hxk]; rfl)
      rw [hKn] at this
      exact (HP3.out rfl rfl).trans this
    have RP := HRP.out (q + 1)
    rw [hKn] at RP
    have RP := RP hxk
    have he := rowR_errM (x0 :: r) (kindWM K) (namesWM K)
    have hlen := rowR_lengthM (ws := x0 :: r) (word := kindWM K) (names := namesWM K)
    have hpk : parseKM K PF PT (x0 :: r) = if (rowR (x0 :: r) (kindWM K) (namesWM K)).2 = 0 then (if checkM (layZ (offsM K) (rowR (x0 :: r) (kindWM K) (namesWM K)).1 (bare3 K PF PT)) = 0 then some (layZ (offsM K) (rowR (x0 :: r) (kindWM K) (namesWM K)).1 (bare3 K PF PT)) else none) else none := rfl
    generalize rowR (x0 :: r) (kindWM K) (namesWM K) = RR at RP he hlen hpk
    obtain ⟨N1, E1⟩ := RR
    simp only at he hlen hpk
    rw [show (namesWM K).length = (offsM K).length by unfold namesWM; rw [List.length_map]] at hlen
    have HE := Lib.hid he
    have HPQ : Hid (E1 = 0 → N1.length = (offsM K).length ∧ (checkM (layZ (offsM K) N1 (bare3 K PF PT)) = 0 → (PV, PE) = (layZ (offsM K) N1 (bare3 K PF PT), 0)) ∧ (checkM (layZ (offsM K) N1 (bare3 K PF PT)) ≠ 0 → (PV, PE) = (bare3 0 0 0, 2))) := Lib.hid (fun h => ⟨hlen h, fun h2 => by rw [hpr, hpk, if_pos h, if_pos h2], fun h2 => by rw [hpr, hpk, if_pos h, if_neg h2]⟩)
    have HPK2 : Hid (E1 = 2 → (PV, PE) = (bare3 0 0 0, 2)) := Lib.hid (fun h => by rw [hpr, hpk, if_neg (by omega)])
    have hX : strL (kindWM K) = X0 := by rw [← hxk]; exact HX0.out
    rw [hX] at RP
    have RP := Lib.hid RP
    have q0 : (0 : Int) ≤ (q : Int) := by omega
    have q7 : (q : Int) < 8 := by omega
    have hwr : IntKind.i64.wrap ((q : Int) + 1) = (q : Int) + 1 := by rw [IntKind.wrap_i64]; omega
    have HKE := Lib.hid hK
    clear he hlen hpk hpr hxk hKn HFK HRP hK hX HPK HP1 HP3
    go_upto_region 10 with fail
    rw [HKE.out]
    have HA6 := Lib.hid (HA5.out.alloc (.cells #[.int .i64 K, .int .i64 PF, .int .i64 PT, .int .i64 0, .int .i64 0, .int .i64 0, .int .i64 0, .int .i64 0, .int .i64 0, .int .i64 0, .int .i64 0, .int .i64 0] 25))
    have HB6 := Lib.hid (HB5.out.alloc (by have := HB5.out.size; have := HN0.out; omega) (.cells #[.int .i64 K, .int .i64 PF, .int .i64 PT, .int .i64 0, .int .i64 0, .int .i64 0, .int .i64 0, .int .i64 0, .int .i64 0, .int .i64 0, .int .i64 0, .int .i64 0] 25))
    have KV := Blk.new w5 #[.int .i64 K, .int .i64 PF, .int .i64 PT, .int .i64 0, .int .i64 0, .int .i64 0, .int .i64 0, .int .i64 0, .int .i64 0, .int .i64 0, .int .i64 0, .int .i64 0] 25
    have HL6 := Lib.hid (HL5.out.below ((Below.refl _ _).alloc (Nat.le_refl _) (.cells #[.int .i64 K, .int .i64 PF, .int .i64 PT, .int .i64 0, .int .i64 0, .int .i64 0, .int .i64 0, .int .i64 0, .int .i64 0, .int .i64 0, .int .i64 0, .int .i64 0] 25)))
    have HD6 := Lib.hid (HD5.out.alloc HD5.out.size (.cells #[.int .i64 K, .int .i64 PF, .int .i64 PT, .int .i64 0, .int .i64 0, .int .i64 0, .int .i64 0, .int .i64 0, .int .i64 0, .int .i64 0, .int .i64 0, .int .i64 0] 25))
    obtain ⟨w6, hw6⟩ : ∃ w6, w5.alloc (.cells #[.int .i64 K, .int .i64 PF, .int .i64 PT, .int .i64 0, .int .i64 0, .int .i64 0, .int .i64 0, .int .i64 0, .int .i64 0, .int .i64 0, .int .i64 0, .int .i64 0] 25) = w6 := ⟨_, rfl⟩
    have hbv0 : n0 < w5.heap.size := HA5.out.lt
    obtain ⟨bv, hbv⟩ : ∃ b, w5.heap.size = b := ⟨_, rfl⟩
    rw [hw6, hbv] at KV
    rw [hw6] at HA6 HB6 HL6 HD6 ⊢
    rw [hbv] at hbv0 ⊢
    have HV6 := Lib.hid KV
    have HBV := Lib.hid hbv0
    have HBL := Lib.hid KV.lt
    clear hw6 hbv KV hbv0 HA5 HB5 HL5 HD5
    have c0 := HV6.out.cell (i := 0) rfl
    go_wp2_with fail
    refine (letter_parts bv K hK17 w6 c0).mono ?_
    rintro e w7 ⟨v7, rfl, hP, hb7⟩
    obtain ⟨pp, pc, rfl⟩ := hP.len
    have HP := Lib.hid hP
    have HA7 := Lib.hid (HA6.out.below hb7 HA6.out.lt)
    have HB7 := Lib.hid (HB6.out.trans (hb7.mono (by have := HB6.out.size; have := HN0.out; omega)))
    have HV7 := Lib.hid (HV6.out.below hb7 HV6.out.lt)
    have HL5 := Lib.hid (HL6.out.below hb7)
    have HD7 := Lib.hid (HD6.out.trans (hb7.mono HD6.out.size))
    have PN := Lib.hid (fun (wx : World) (h : OwnPM w6.heap.size wx (.slice pp (offsM K).length pc) bv (offsM K)) => letter_names w6.heap.size bv (offsM K) _ wx h (by have := offsM_length K; omega))
    have HRC2 : Hid (∀ j y, (r.map strL)[j]? = some y → w7.cell? (ad.add j) = some (.string y)) := Lib.hid (fun j y hj => by
      have h := HRC.out j y hj
      have hb : ad.block = gw := by rcases HAD.out with ⟨rfl, _⟩ | ⟨rfl, _⟩ <;> rfl
      have e : (ad.add j).block = gw := by simp [Addr.add]; split <;> exact hb
      exact (World.cell?_of_block (HD7.out.block _ (by rw [e]; exact HGL.out))).trans h)
    have cv0 := keepB HD7.out cw0 hgl
    have hgl7 : gw < w7.heap.size := Nat.lt_of_lt_of_le hgl HD7.out.size
    have HGL7 : Hid (∀ j, (ad.add j).block < w7.heap.size) := Lib.hid (fun j => by
      have hb : ad.block = gw := by rcases HAD.out with ⟨rfl, _⟩ | ⟨rfl, _⟩ <;> rfl
      have e : (ad.add j).block = gw := by simp [Addr.add]; split <;> exact hb
      rw [e]; exact hgl7)
    have hw0 : Below w7.heap.size w7 w7.drew := ⟨rfl, rfl, rfl, Nat.le_refl _, fun _ _ => rfl⟩
    clear hP hb7 c0 HA6 HB6 HV6 HL6 HD6 cw0 cw1 cw2 hgl HRC HGL HD7 HL2
    have cw0 := cv0
    have hgl := hgl7
    have HRC := HRC2
    have HGL := HGL7
    clear cv0 hgl7 HRC2 HGL7
    go_upto_region 11 with fail
    refine wp_region_held_drew (S := (fun w' => w'.cell? ⟨gw, 0, none⟩ = some (.string X0))) (by kernel_rfl) cw0 (fun hHeld => ?_)
    refine wpAnyH_take (i := 0) (oi := ({ dst := some 63, op := Op.move (Operand.tmp 4), type := 67, pos := "letter.go:91", after := #[], guard := none })) (v := (.slice (some ⟨gw, 0, none⟩) nw cw)) rfl (by kernel_rfl) (by kernel_rfl) (by kernel_rfl) (fun _ _ _ h => h) (Or.inl ⟨by rfl, ?_⟩) (by assumption) ?_
    · (intro w hSw; (try rcases HAD.out with ⟨rfl, rfl, h1, h2, h3, h4⟩ | ⟨rfl, rfl, h1, h2, h3, h4⟩); all_goals (go_simp; try (first | omega | (intro h0; exfalso; omega) | rw [if_pos (by omega), if_neg (by omega)])))
    try simp only [Act.put, List.setIfInBounds_toArray, List.set_cons_zero, List.set_cons_succ]
    refine wpAnyH_take (i := 1) (oi := ({ dst := some 64, op := Op.slice 67 (Operand.tmp 63) none (some (Operand.const (Value.int IntKind.i64 1))) (some (Operand.const (Value.int IntKind.i64 1))), type := 67, pos := "letter.go:91", after := #[{ on := 0, ground := Ground.data }], guard := none })) (v := (.slice (some ⟨gw, 0, none⟩) 1 1)) rfl (by kernel_rfl) (by kernel_rfl) (by kernel_rfl) (fun _ _ _ h => h) (Or.inl ⟨by rfl, ?_⟩) (by assumption) ?_
    · (intro w hSw; (try rcases HAD.out with ⟨rfl, rfl, h1, h2, h3, h4⟩ | ⟨rfl, rfl, h1, h2, h3, h4⟩); all_goals (go_simp; try (first | omega | (intro h0; exfalso; omega) | rw [if_pos (by omega), if_neg (by omega)])))
    try simp only [Act.put, List.setIfInBounds_toArray, List.set_cons_zero, List.set_cons_succ]
    refine wpAnyH_take (i := 2) (oi := ({ dst := some 65, op := Op.move (Operand.tmp 4), type := 67, pos := "letter.go:91", after := #[], guard := none })) (v := (.slice (some ⟨gw, 0, none⟩) nw cw)) rfl (by kernel_rfl) (by kernel_rfl) (by kernel_rfl) (fun _ _ _ h => h) (Or.inl ⟨by rfl, ?_⟩) (by assumption) ?_
    · (intro w hSw; (try rcases HAD.out with ⟨rfl, rfl, h1, h2, h3, h4⟩ | ⟨rfl, rfl, h1, h2, h3, h4⟩); all_goals (go_simp; try (first | omega | (intro h0; exfalso; omega) | rw [if_pos (by omega), if_neg (by omega)])))
    try simp only [Act.put, List.setIfInBounds_toArray, List.set_cons_zero, List.set_cons_succ]
    refine wpAnyH_take (i := 3) (oi := ({ dst := some 66, op := Op.slice 67 (Operand.tmp 65) (some (Operand.const (Value.int IntKind.i64 3))) none none, type := 67, pos := "letter.go:91", after := #[{ on := 2, ground := Ground.data }], guard := none })) (v := (.slice (some ad) nr cr)) rfl (by kernel_rfl) (by kernel_rfl) (by kernel_rfl) (fun _ _ _ h => h) (Or.inl ⟨by rfl, ?_⟩) (by assumption) ?_
    · (intro w hSw; (try rcases HAD.out with ⟨rfl, rfl, h1, h2, h3, h4⟩ | ⟨rfl, rfl, h1, h2, h3, h4⟩); all_goals (go_simp; try (first | omega | (intro h0; exfalso; omega) | rw [if_pos (by omega), if_neg (by omega)])))
    try simp only [Act.put, List.setIfInBounds_toArray, List.set_cons_zero, List.set_cons_succ]
    refine wpAnyH_take (i := 6) (oi := ({ dst := some 69, op := Op.move (Operand.tmp 4), type := 67, pos := "letter.go:91", after := #[], guard := none })) (v := (.slice (some ⟨gw, 0, none⟩) nw cw)) rfl (by kernel_rfl) (by kernel_rfl) (by kernel_rfl) (fun _ _ _ h => h) (Or.inl ⟨by rfl, ?_⟩) (by assumption) ?_
    · (intro w hSw; (try rcases HAD.out with ⟨rfl, rfl, h1, h2, h3, h4⟩ | ⟨rfl, rfl, h1, h2, h3, h4⟩); all_goals (go_simp; try (first | omega | (intro h0; exfalso; omega) | rw [if_pos (by omega), if_neg (by omega)])))
    try simp only [Act.put, List.setIfInBounds_toArray, List.set_cons_zero, List.set_cons_succ]
    refine wpAnyH_take (i := 7) (oi := ({ dst := some 70, op := Op.indexAddr 67 (Operand.tmp 69) (Operand.const (Value.int IntKind.i64 0)), type := 0, pos := "letter.go:91", after := #[{ on := 6, ground := Ground.data }], guard := none })) (v := (.pointer (some ⟨gw, 0, none⟩))) rfl (by kernel_rfl) (by kernel_rfl) (by kernel_rfl) (fun _ _ _ h => h) (Or.inl ⟨by rfl, ?_⟩) (by assumption) ?_
    · (intro w hSw; (try rcases HAD.out with ⟨rfl, rfl, h1, h2, h3, h4⟩ | ⟨rfl, rfl, h1, h2, h3, h4⟩); all_goals (go_simp; try (first | omega | (intro h0; exfalso; omega) | rw [if_pos (by omega), if_neg (by omega)])))
    try simp only [Act.put, List.setIfInBounds_toArray, List.set_cons_zero, List.set_cons_succ]
    refine wpAnyH_take (i := 8) (oi := ({ dst := some 71, op := Op.load 9 (Operand.tmp 70), type := 9, pos := "letter.go:91", after := #[{ on := 7, ground := Ground.data }], guard := none })) (v := (.string X0)) rfl (by kernel_rfl) (by kernel_rfl) (by kernel_rfl) (fun _ _ _ h => h) (Or.inl ⟨by rfl, ?_⟩) (by assumption) ?_
    · (intro w hSw; (try rcases HAD.out with ⟨rfl, rfl, h1, h2, h3, h4⟩ | ⟨rfl, rfl, h1, h2, h3, h4⟩); all_goals (go_simp; try (first | omega | (intro h0; exfalso; omega) | rw [if_pos (by omega), if_neg (by omega)])))
    try simp only [Act.put, List.setIfInBounds_toArray, List.set_cons_zero, List.set_cons_succ]
    refine wpAnyH_take (i := 9) (oi := ({ dst := some 72, op := Op.move (Operand.tmp 12), type := 57, pos := "letter.go:91", after := #[], guard := none })) (v := (.slice pp (offsM K).length pc)) rfl (by kernel_rfl) (by kernel_rfl) (by kernel_rfl) (fun _ _ _ h => h) (Or.inl ⟨by rfl, ?_⟩) (by assumption) ?_
    · (intro w hSw; (try rcases HAD.out with ⟨rfl, rfl, h1, h2, h3, h4⟩ | ⟨rfl, rfl, h1, h2, h3, h4⟩); all_goals (go_simp; try (first | omega | (intro h0; exfalso; omega) | rw [if_pos (by omega), if_neg (by omega)])))
    try simp only [Act.put, List.setIfInBounds_toArray, List.set_cons_zero, List.set_cons_succ]
    refine wpAnyH_ready (rs := [4]) (by kernel_rfl) (by simp) (AllReadyH.cons (o := ({ dst := some 67, op := Op.call { callee := Callee.builtin Builtin.append, args := #[Operand.tmp 64, Operand.tmp 66], argTypes := #[67, 67] }, type := 67, pos := "letter.go:91", after := #[{ on := 1, ground := Ground.data }, { on := 3, ground := Ground.data }], guard := none })) rfl (fun K hK => ?_) AllReadyH.nil)
    rw [if_pos (by rfl)]
    refine wp_append_cut _ _ _ i0 rfl Tryz.underlying67 HII.out hz hsize hby gw ad nr cr X0 (r.map strL) rfl rfl (keepB hw0 cw0 hgl) HNR.out (fun j y hj => keepB hw0 (HRC.out j y hj) (HGL.out j)) HNR2.out ?_
    intro v11 w11 h11 hbq
    replace h11 := Lib.hid h11
    replace hw0 := hw0.trans (Below.mono (by exact ⟨hbq.os, hbq.tape, hbq.output, hbq.size, hbq.block⟩) hw0.size)
    clear hbq
    clear hHeld
    refine hK.out _ _ (keepB hw0 cw0 hgl) (fun hHeld => ?_)
    clear hK K
    try simp only [Act.put, List.setIfInBounds_toArray, List.set_cons_zero, List.set_cons_succ]
    refine wpAnyH_ready (rs := [5]) (by kernel_rfl) (by simp) (AllReadyH.cons (o := ({ dst := some 68, op := Op.call { callee := Callee.value (Operand.func 33), args := #[Operand.tmp 67], argTypes := #[67] }, type := 9, pos := "letter.go:91", after := #[{ on := 4, ground := Ground.data }, { on := 4, ground := Ground.chain }], guard := none })) rfl (fun K hK => ?_) AllReadyH.nil)
    go_simp
    refine (JN.out _ _ h11.out).mono ?_
    rintro e wj ⟨rfl, hbq⟩
    replace hw0 := hw0.trans (Below.mono (by exact ⟨hbq.os, hbq.tape, hbq.output, hbq.size, hbq.block⟩) hw0.size)
    clear hbq h11
    go_wp2_with fail
    clear hHeld
    refine hK.out _ _ (keepB hw0 cw0 hgl) (fun hHeld => ?_)
    clear hK K
    try simp only [Act.put, List.setIfInBounds_toArray, List.set_cons_zero, List.set_cons_succ]
    refine wpAnyH_ready (rs := [10]) (by kernel_rfl) (by simp) (AllReadyH.cons (o := ({ dst := some 73, op := Op.call { callee := Callee.value (Operand.func 35), args := #[Operand.tmp 72], argTypes := #[57] }, type := 67, pos := "letter.go:91", after := #[{ on := 9, ground := Ground.data }, { on := 5, ground := Ground.chain }], guard := none })) rfl (fun K hK => ?_) AllReadyH.nil)
    go_simp
    refine (PN.out _ (HP.out.below hw0 (Nat.le_refl _))).mono ?_
    rintro e wn ⟨vn, rfl, hvn, hbq⟩
    replace hvn := Lib.hid hvn.row
    replace hw0 := hw0.trans (Below.mono (by exact ⟨hbq.os, hbq.tape, hbq.output, hbq.size, hbq.block⟩) hw0.size)
    clear hbq
    go_wp2_with fail
    clear hHeld
    refine hK.out _ _ (keepB hw0 cw0 hgl) (fun hHeld => ?_)
    clear hK K
    try simp only [Act.put, List.setIfInBounds_toArray, List.set_cons_zero, List.set_cons_succ]
    refine wpAnyH_ready (rs := [11]) (by kernel_rfl) (by simp) (AllReadyH.cons (o := ({ dst := some 74, op := Op.call { callee := Callee.value (Operand.func 44), args := #[Operand.tmp 68, Operand.tmp 71, Operand.tmp 73], argTypes := #[9, 9, 67] }, type := 78, pos := "letter.go:91", after := #[{ on := 5, ground := Ground.data }, { on := 8, ground := Ground.data }, { on := 10, ground := Ground.data }, { on := 10, ground := Ground.chain }], guard := none })) rfl (fun K hK => ?_) AllReadyH.nil)
    go_simp
    have hbs := hw0.size
    refine (RP.out _ _ hvn.out (HL5.out.below hw0).laid).mono ?_
    rintro e w8 ⟨vl, rfl, hvl, hbq⟩
    replace hvl := Lib.hid (hvl.lower hbs)
    replace hw0 := hw0.trans (Below.mono (by exact ⟨hbq.os, hbq.tape, hbq.output, hbq.size, hbq.block⟩) hw0.size)
    clear hbq
    go_wp2_with fail
    clear hHeld
    refine hK.out _ _ (keepB hw0 cw0 hgl) (fun hHeld => ?_)
    clear hK K
    try simp only [Act.put, List.setIfInBounds_toArray, List.set_cons_zero, List.set_cons_succ]
    refine wpAnyH_take (i := 12) (oi := ({ dst := some 62, op := Op.move (Operand.tmp 74), type := 78, pos := "letter.go:91", after := #[{ on := 11, ground := Ground.data }], guard := none })) (v := (.tuple #[vl, .int .i64 E1])) rfl (by kernel_rfl) (by kernel_rfl) (by kernel_rfl) (fun _ _ _ h => h) (Or.inl ⟨by rfl, ?_⟩) (by assumption) ?_
    · (intro w hSw; (try rcases HAD.out with ⟨rfl, rfl, h1, h2, h3, h4⟩ | ⟨rfl, rfl, h1, h2, h3, h4⟩); all_goals (go_simp; try (first | omega | (intro h0; exfalso; omega) | rw [if_pos (by omega), if_neg (by omega)])))
    try simp only [Act.put, List.setIfInBounds_toArray, List.set_cons_zero, List.set_cons_succ]
    refine wpAnyH_take (i := 13) (oi := ({ dst := some 75, op := Op.extract (Operand.tmp 62) 0, type := 60, pos := "letter.go:91", after := #[{ on := 12, ground := Ground.data }], guard := none })) (v := vl) rfl (by kernel_rfl) (by kernel_rfl) (by kernel_rfl) (fun _ _ _ h => h) (Or.inl ⟨by rfl, ?_⟩) (by assumption) ?_
    · (intro w hSw; (try rcases HAD.out with ⟨rfl, rfl, h1, h2, h3, h4⟩ | ⟨rfl, rfl, h1, h2, h3, h4⟩); all_goals (go_simp; try (first | omega | (intro h0; exfalso; omega) | rw [if_pos (by omega), if_neg (by omega)])))
    try simp only [Act.put, List.setIfInBounds_toArray, List.set_cons_zero, List.set_cons_succ]
    refine wpAnyH_take (i := 14) (oi := ({ dst := some 76, op := Op.extract (Operand.tmp 62) 1, type := 27, pos := "letter.go:91", after := #[{ on := 12, ground := Ground.data }, { on := 15, ground := Ground.gcOnly Departure.lateStores }], guard := none })) (v := (.int .i64 E1)) rfl (by kernel_rfl) (by kernel_rfl) (by kernel_rfl) (fun _ _ _ h => h) (Or.inl ⟨by rfl, ?_⟩) (by assumption) ?_
    · (intro w hSw; (try rcases HAD.out with ⟨rfl, rfl, h1, h2, h3, h4⟩ | ⟨rfl, rfl, h1, h2, h3, h4⟩); all_goals (go_simp; try (first | omega | (intro h0; exfalso; omega) | rw [if_pos (by omega), if_neg (by omega)])))
    try simp only [Act.put, List.setIfInBounds_toArray, List.set_cons_zero, List.set_cons_succ]
    refine wpAnyH_take (i := 15) (oi := ({ dst := some 13, op := Op.assign (Operand.tmp 75), type := 60, pos := "letter.go:91", after := #[{ on := 13, ground := Ground.data }, { on := 11, ground := Ground.chain }, { on := 0, ground := Ground.phase }, { on := 1, ground := Ground.phase }, { on := 2, ground := Ground.phase }, { on := 3, ground := Ground.phase }, { on := 4, ground := Ground.phase }, { on := 5, ground := Ground.phase }, { on := 6, ground := Ground.phase }, { on := 7, ground := Ground.phase }, { on := 8, ground := Ground.phase }, { on := 9, ground := Ground.phase }, { on := 10, ground := Ground.phase }, { on := 11, ground := Ground.phase }, { on := 12, ground := Ground.phase }, { on := 13, ground := Ground.phase }, { on := 14, ground := Ground.textOnly Departure.lateStores }], guard := none })) (v := vl) rfl (by kernel_rfl) (by kernel_rfl) (by kernel_rfl) (fun _ _ _ h => h) (Or.inl ⟨by rfl, ?_⟩) (by assumption) ?_
    · (intro w hSw; (try rcases HAD.out with ⟨rfl, rfl, h1, h2, h3, h4⟩ | ⟨rfl, rfl, h1, h2, h3, h4⟩); all_goals (go_simp; try (first | omega | (intro h0; exfalso; omega) | rw [if_pos (by omega), if_neg (by omega)])))
    try simp only [Act.put, List.setIfInBounds_toArray, List.set_cons_zero, List.set_cons_succ]
    refine wpAnyH_take (i := 16) (oi := ({ dst := some 14, op := Op.assign (Operand.tmp 76), type := 27, pos := "letter.go:91", after := #[{ on := 14, ground := Ground.data }, { on := 15, ground := Ground.chain }, { on := 0, ground := Ground.phase }, { on := 1, ground := Ground.phase }, { on := 2, ground := Ground.phase }, { on := 3, ground := Ground.phase }, { on := 4, ground := Ground.phase }, { on := 5, ground := Ground.phase }, { on := 6, ground := Ground.phase }, { on := 7, ground := Ground.phase }, { on := 8, ground := Ground.phase }, { on := 9, ground := Ground.phase }, { on := 10, ground := Ground.phase }, { on := 11, ground := Ground.phase }, { on := 12, ground := Ground.phase }, { on := 13, ground := Ground.phase }, { on := 14, ground := Ground.phase }, { on := 15, ground := Ground.phase }], guard := none })) (v := (.int .i64 E1)) rfl (by kernel_rfl) (by kernel_rfl) (by kernel_rfl) (fun _ _ _ h => h) (Or.inl ⟨by rfl, ?_⟩) (by assumption) ?_
    · (intro w hSw; (try rcases HAD.out with ⟨rfl, rfl, h1, h2, h3, h4⟩ | ⟨rfl, rfl, h1, h2, h3, h4⟩); all_goals (go_simp; try (first | omega | (intro h0; exfalso; omega) | rw [if_pos (by omega), if_neg (by omega)])))
    try simp only [Act.put, List.setIfInBounds_toArray, List.set_cons_zero, List.set_cons_succ]
    refine wpAnyH_done (by kernel_rfl) ?_ _
    clear hHeld
    have HB8 := Lib.hid (HB7.out.trans (hw0.mono (by have := HB7.out.size; have := HN0.out; omega)))
    have HA8 := Lib.hid (HA7.out.below hw0 HA7.out.lt)
    have HV8 := Lib.hid (HV7.out.below hw0 HV7.out.lt)
    have HP8 := Lib.hid (HP.out.below hw0 (Nat.le_refl _))
    have HBL7 := Lib.hid HV7.out.lt
    clear hw0 HB7 HA7 HV7 HP HL5 cw0
    rcases HE.out with rfl | rfl
    · obtain ⟨hlen, hs1, hs2⟩ := HPQ.out rfl
      obtain ⟨m, hm⟩ : ∃ m, (offsM K).length = m := ⟨_, rfl⟩
      have hm0 : 0 < m := by
        rw [← hm]
        rcases kind_eightI hK17 with rfl | rfl | rfl | rfl | rfl | rfl | rfl | rfl <;> decide
      have hofl := offsM_lt K
      rw [hm] at hlen HP8 ⊢
      obtain ⟨bl, lc, hvl1, hvl2, hvl3⟩ : ∃ bl lc, vl = .slice (some ⟨bl, 0, none⟩) m lc ∧ w7.heap.size ≤ bl ∧ bl < w8.heap.size := by
        obtain ⟨_, ⟨_, h2⟩ | ⟨g2, cap, cur, h2, h3, h4, _⟩⟩ := hvl.out
        · omega
        · exact ⟨g2, cap, by rw [h2, hlen], h3, (Array.getElem?_eq_some_iff.1 h4).1⟩
      subst hvl1
      have hlc : ∀ i x, N1[i]? = some x → w8.cell? ⟨bl, i, none⟩ = some (.int .i64 x) := by
        intro i x hx
        have h := World.ownsRow.cells hvl.out (g := bl) rfl i (.int .i64 x) (by rw [List.getElem?_map, hx]; rfl)
        have e : (⟨bl, 0, none⟩ : Addr).add i = ⟨bl, i, none⟩ := by simp [Addr.add]; intro h; exact h.symm
        rw [e] at h
        exact h
      have HLC := Lib.hid hlc
      have HM := Lib.hid hm
      have HLEN := Lib.hid hlen
      have HS1 := Lib.hid hs1
      have HS2 := Lib.hid hs2
      have HOFL := Lib.hid hofl
      have HL2 : Hid (bv < bl ∧ bl < w8.heap.size) := Lib.hid ⟨by have := HBL7.out; omega, hvl3⟩
      have HB2 : Hid (bv < w8.heap.size) := Lib.hid HV8.out.lt
      clear hlc hm hlen hs1 hs2 hofl hvl hvl2 hvl3 HPQ HPK2
      go_wp2_with fail
      go_loopg [83] m (fun gg s83 wr => ∃ (i : Nat) (d : List Int), i ≤ m ∧ gg = m - i ∧ s83 = .int .i64 i ∧ d.length = 12 ∧ Hid (d = layZ ((offsM K).take i) (N1.take i) (bare3 K PF PT)) ∧ Hid (Blk wr bv (cellsI d) 25) ∧ Hid (w8.grownBy wr (some bv)))
      case atStart => exact ⟨0, bare3 K PF PT, Nat.zero_le _, rfl, rfl, rfl, Lib.hid rfl, Lib.hid HV8.out, Lib.hid (gby_refl _ _)⟩
      case round =>
        obtain ⟨i, d, hi, hg0, rfl, hd8, HD, HVr, HGr⟩ := hrel
        have hg0 := hg0.symm
        subst hg0
        by_cases hlt : i < m
        · obtain ⟨o, ho⟩ : ∃ o, (offsM K)[i]? = some o := ⟨_, List.getElem?_eq_getElem (by rw [HM.out]; exact hlt)⟩
          obtain ⟨x, hx⟩ : ∃ x, N1[i]? = some x := ⟨_, List.getElem?_eq_getElem (by rw [HLEN.out]; exact hlt)⟩
          obtain ⟨b, cap, e1, b0, b1, d0, d1⟩ := OwnPM.at HP8.out (by exact ho)
          rw [HM.out] at e1
          cases e1
          have ho8 := (HOFL.out o (List.mem_of_getElem? ho)).2
          obtain ⟨gc1, gc2⟩ := gcell HGr.out
          have hbne : ¬ b = bv := by have := HBL.out; omega
          have e0 := (gc1 b (2 * i) b1 hbne).trans d0
          have e1 := (gc1 b (2 * i + 1) b1 hbne).trans d1
          have el := (gc1 bl i HL2.out.2 (by have := HL2.out.1; omega)).trans (HLC.out i x hx)
          have HD2 : Hid (d.set o x = layZ ((offsM K).take (i + 1)) (N1.take (i + 1)) (bare3 K PF PT)) := Lib.hid (by
            obtain ⟨h1, e⟩ := List.getElem?_eq_some_iff.1 ho
            obtain ⟨h2, e'⟩ := List.getElem?_eq_some_iff.1 hx
            rw [List.take_succ_eq_append_getElem h1, List.take_succ_eq_append_getElem h2, e, e', layZ_append _ _ _ _ _ (by rw [List.length_take, List.length_take]; omega), ← HD.out]
            rfl)
          have hm5 : m ≤ 5 := by have := offsM_length K; have := HM.out; omega
          have hiI : (i : Int) < (m : Int) := by omega
          have hi0 : (0 : Int) ≤ (i : Int) := by omega
          have hmul : i * 2 = 2 * i := by omega
          obtain ⟨X, hX⟩ : ∃ X, strL (partWM o) = X := ⟨_, rfl⟩
          rw [hX] at e0
          clear d0 d1 ho hx hX gc1 gc2 HD
          go_upto_region 17 with fail
          have HV10 := Lib.hid (HVr.out.alloc (.cells #[.string X, .pointer (some ⟨bv, o, none⟩)] 63))
          have HG10 := Lib.hid (gby_alloc HGr.out (.cells #[.string X, .pointer (some ⟨bv, o, none⟩)] 63))
          have p1 := (Blk.new wr #[.string X, .pointer (some ⟨bv, o, none⟩)] 63).cell (i := 1) rfl
          have l1 := keepA el (.cells #[.string X, .pointer (some ⟨bv, o, none⟩)] 63)
          have hnp0 : ¬ bv = wr.heap.size := by have := HVr.out.lt; omega
          have hnl : ¬ bv = bl := by have := HL2.out.1; omega
          obtain ⟨w10, hw10⟩ : ∃ w10, wr.alloc (.cells #[.string X, .pointer (some ⟨bv, o, none⟩)] 63) = w10 := ⟨_, rfl⟩
          obtain ⟨bp, hbp⟩ : ∃ b, wr.heap.size = b := ⟨_, rfl⟩
          rw [hw10] at HV10 HG10 p1 l1 ⊢
          rw [hbp] at p1 hnp0 ⊢
          have hnp : ¬ bv = bp := hnp0
          have hce := HV10.out.cell (cellsI_at (l := d) (i := o) (by omega))
          have hcf := HV10.out.free o
          clear hw10 hbp hnp0 e0 e1 el HVr HGr
          refine wp_region_held_drew (S := (fun w' => w'.cell? ⟨bp, 1, none⟩ = some (.pointer (some ⟨bv, o, none⟩)) ∧ w'.cell? ⟨bl, i, none⟩ = some (.int .i64 x))) (by kernel_rfl) ⟨p1, l1⟩ (fun hHeld => ?_)
          refine wpAnyH_take (i := 0) (oi := ({ dst := some 88, op := Op.fieldAddr 63 (Operand.tmp 16) 1, type := 0, pos := "letter.go:96", after := #[], guard := none })) (v := (.pointer (some ⟨bp, 1, none⟩))) rfl (by kernel_rfl) (by kernel_rfl) (by kernel_rfl) (fun _ _ _ h => h) (Or.inl ⟨by rfl, ?_⟩) (by assumption) ?_
          · (intro w hSw; go_simp)
          try simp only [Act.put, List.setIfInBounds_toArray, List.set_cons_zero, List.set_cons_succ]
          refine wpAnyH_take (i := 1) (oi := ({ dst := some 89, op := Op.load 61 (Operand.tmp 88), type := 61, pos := "letter.go:96", after := #[{ on := 0, ground := Ground.data }], guard := none })) (v := (.pointer (some ⟨bv, o, none⟩))) rfl (by kernel_rfl) (by kernel_rfl) (by kernel_rfl) (fun _ _ _ h => h) (Or.inl ⟨by rfl, ?_⟩) (by assumption) ?_
          · (intro w hSw; go_simp)
          try simp only [Act.put, List.setIfInBounds_toArray, List.set_cons_zero, List.set_cons_succ]
          refine wpAnyH_take (i := 2) (oi := ({ dst := some 90, op := Op.move (Operand.tmp 13), type := 60, pos := "letter.go:96", after := #[], guard := none })) (v := (.slice (some ⟨bl, 0, none⟩) m lc)) rfl (by kernel_rfl) (by kernel_rfl) (by kernel_rfl) (fun _ _ _ h => h) (Or.inl ⟨by rfl, ?_⟩) (by assumption) ?_
          · (intro w hSw; go_simp)
          try simp only [Act.put, List.setIfInBounds_toArray, List.set_cons_zero, List.set_cons_succ]
          refine wpAnyH_take (i := 3) (oi := ({ dst := some 91, op := Op.move (Operand.tmp 15), type := 3, pos := "letter.go:96", after := #[], guard := none })) (v := (.int .i64 i)) rfl (by kernel_rfl) (by kernel_rfl) (by kernel_rfl) (fun _ _ _ h => h) (Or.inl ⟨by rfl, ?_⟩) (by assumption) ?_
          · (intro w hSw; go_simp)
          try simp only [Act.put, List.setIfInBounds_toArray, List.set_cons_zero, List.set_cons_succ]
          refine wpAnyH_take (i := 4) (oi := ({ dst := some 92, op := Op.indexAddr 60 (Operand.tmp 90) (Operand.tmp 91), type := 0, pos := "letter.go:96", after := #[{ on := 2, ground := Ground.data }, { on := 3, ground := Ground.data }], guard := none })) (v := (.pointer (some ⟨bl, i, none⟩))) rfl (by kernel_rfl) (by kernel_rfl) (by kernel_rfl) (fun _ _ _ h => h) (Or.inl ⟨by rfl, ?_⟩) (by assumption) ?_
          · (intro w hSw; go_simp)
          try simp only [Act.put, List.setIfInBounds_toArray, List.set_cons_zero, List.set_cons_succ]
          refine wpAnyH_take (i := 5) (oi := ({ dst := some 93, op := Op.load 3 (Operand.tmp 92), type := 3, pos := "letter.go:96", after := #[{ on := 4, ground := Ground.data }], guard := none })) (v := (.int .i64 x)) rfl (by kernel_rfl) (by kernel_rfl) (by kernel_rfl) (fun _ _ _ h => h) (Or.inl ⟨by rfl, ?_⟩) (by assumption) ?_
          · (intro w hSw; go_simp)
          try simp only [Act.put, List.setIfInBounds_toArray, List.set_cons_zero, List.set_cons_succ]
          refine wpAnyH_take (i := 6) (oi := ({ dst := some 94, op := Op.nilCheck (Operand.tmp 89), type := 0, pos := "letter.go:96", after := #[{ on := 1, ground := Ground.data }, { on := 0, ground := Ground.phase }, { on := 1, ground := Ground.phase }, { on := 2, ground := Ground.phase }, { on := 3, ground := Ground.phase }, { on := 4, ground := Ground.phase }, { on := 5, ground := Ground.phase }], guard := none })) (v := (.pointer (some ⟨bv, o, none⟩))) rfl (by kernel_rfl) (by kernel_rfl) (by kernel_rfl) (fun _ _ _ h => h) (Or.inl ⟨by rfl, ?_⟩) (by assumption) ?_
          · (intro w hSw; go_simp)
          try simp only [Act.put, List.setIfInBounds_toArray, List.set_cons_zero, List.set_cons_succ]
          refine wpAnyH_ready (rs := [7]) (by kernel_rfl) (by simp) (AllReadyH.cons (o := ({ dst := none, op := Op.store 3 (Operand.tmp 94) (Operand.tmp 93), type := 0, pos := "letter.go:96", after := #[{ on := 6, ground := Ground.data }, { on := 5, ground := Ground.data }, { on := 0, ground := Ground.phase }, { on := 1, ground := Ground.phase }, { on := 2, ground := Ground.phase }, { on := 3, ground := Ground.phase }, { on := 4, ground := Ground.phase }, { on := 5, ground := Ground.phase }], guard := none })) rfl (fun K hK => ?_) AllReadyH.nil)
          go_simp
          clear hHeld
          refine hK.out _ _ ⟨(World.cell?_setCell_other _ _ _ _ (fun e => hnp (congrArg Addr.block e))).trans p1, (World.cell?_setCell_other _ _ _ _ (fun e => hnl (congrArg Addr.block e))).trans l1⟩ (fun hHeld => ?_)
          clear hK K
          try simp only [Act.put, List.setIfInBounds_toArray, List.set_cons_zero, List.set_cons_succ]
          refine wpAnyH_done (by kernel_rfl) ?_ _
          clear hHeld
          have HVn : Hid (Blk ((w10.drew).setCell ⟨bv, o, none⟩ (.int .i64 x)) bv (cellsI (d.set o x)) 25) := Lib.hid (by rw [← cellsI_set]; exact (HV10.out.drew).set o _)
          have HGn := Lib.hid (gby_set (gby_drew HG10.out) o (.int .i64 x))
          go_wp2_with fail
          go_roundg (m - (i + 1))
          case measure => omega
          case rel => exact ⟨i + 1, d.set o x, by omega, rfl, by go_num, by rw [List.length_set]; exact hd8, HD2, HVn, HGn⟩
        · obtain rfl : i = m := by omega
          have hD : d = layZ (offsM K) N1 (bare3 K PF PT) := by rw [HD.out, List.take_of_length_le (by rw [HM.out]; exact Nat.le_refl _), List.take_of_length_le (by rw [HLEN.out]; exact Nat.le_refl _)]
          have CD := fun w h => msg_check d hd8 w h
          have hs1 := HS1.out
          have hs2 := HS2.out
          rw [← hD] at hs1 hs2
          obtain ⟨d0, d1, d2, d3, d4, d5, d6, d7, d8, d9, d10, d11, rfl⟩ := twelve_of hd8
          have e8 : cellsI [d0, d1, d2, d3, d4, d5, d6, d7, d8, d9, d10, d11] = #[.int .i64 d0, .int .i64 d1, .int .i64 d2, .int .i64 d3, .int .i64 d4, .int .i64 d5, .int .i64 d6, .int .i64 d7, .int .i64 d8, .int .i64 d9, .int .i64 d10, .int .i64 d11] := rfl
          rw [e8] at CD HVr
          obtain ⟨CK, hCK⟩ : ∃ c, checkM [d0, d1, d2, d3, d4, d5, d6, d7, d8, d9, d10, d11] = c := ⟨_, rfl⟩
          rw [hCK] at CD hs1 hs2
          have CD : Hid (∀ w, LaidM w → Calls Tryz.prog 30 #[.agg #[.int .i64 d0, .int .i64 d1, .int .i64 d2, .int .i64 d3, .int .i64 d4, .int .i64 d5, .int .i64 d6, .int .i64 d7, .int .i64 d8, .int .i64 d9, .int .i64 d10, .int .i64 d11]] w fun e w' => e = .returned (.int .i64 CK) ∧ Below w.heap.size w w') := Lib.hid CD
          have HT1 := Lib.hid hs1
          have HT2 := Lib.hid hs2
          have HAr : Hid (Blk wr n0 (cellsI (bare3 0 0 0)) 25) := Lib.hid (HA8.out.gby HGr.out (by have := HBV.out; omega))
          have HBr : Hid (Below n0 w wr) := Lib.hid (HB8.out.trans (by have h := HGr.out; exact ⟨h.os, h.tape, h.output, h.size, fun k hk => h.block k (by have := HB2.out; have := HBV.out; omega) (by intro e; injection e with e; have := HBV.out; omega)⟩))
          have HLr : Hid (LaidL wr) := Lib.hid (LZ.out wr HBr.out)
          clear hD hs1 hs2 hCK HD HS1 HS2 HA8 HB8 HGr
          have v0 := HVr.out.cell (i := 0) rfl
          have v1 := HVr.out.cell (i := 1) rfl
          have v2 := HVr.out.cell (i := 2) rfl
          have v3 := HVr.out.cell (i := 3) rfl
          have v4 := HVr.out.cell (i := 4) rfl
          have v5 := HVr.out.cell (i := 5) rfl
          have v6 := HVr.out.cell (i := 6) rfl
          have v7 := HVr.out.cell (i := 7) rfl
          have v8 := HVr.out.cell (i := 8) rfl
          have v9 := HVr.out.cell (i := 9) rfl
          have v10 := HVr.out.cell (i := 10) rfl
          have v11 := HVr.out.cell (i := 11) rfl
          go_wp2_with fail
          refine (CD.out _ HLr.out.m).mono ?_
          rintro e w7b ⟨rfl, hb7⟩
          have HA7 := Lib.hid (HAr.out.below hb7 HAr.out.lt)
          have HV7 := Lib.hid (HVr.out.below hb7 HVr.out.lt)
          have HB7 := Lib.hid (HBr.out.trans (hb7.mono (by have := HBr.out.size; have := HN0.out; omega)))
          clear hb7 v0 v1 v2 v3 v4 v5 v6 v7 v8 v9 v10 v11 HAr HVr HBr
          have v0 := HV7.out.cell (i := 0) rfl
          have v1 := HV7.out.cell (i := 1) rfl
          have v2 := HV7.out.cell (i := 2) rfl
          have v3 := HV7.out.cell (i := 3) rfl
          have v4 := HV7.out.cell (i := 4) rfl
          have v5 := HV7.out.cell (i := 5) rfl
          have v6 := HV7.out.cell (i := 6) rfl
          have v7 := HV7.out.cell (i := 7) rfl
          have v8 := HV7.out.cell (i := 8) rfl
          have v9 := HV7.out.cell (i := 9) rfl
          have v10 := HV7.out.cell (i := 10) rfl
          have v11 := HV7.out.cell (i := 11) rfl
          by_cases hck : CK = 0
          · have HR := Lib.hid (HT1.out hck)
            subst hck
            clear HT1 HT2
            go_wp2_with (with_reducible refine ev_store rfl 25 (.tmp 2) (.tmp 100) rfl n0 (cellsI [d0, d1, d2, d3, d4, d5, d6, d7, d8, d9, d10, d11]) rfl rfl 25 _ HA7.out (by kernel_rfl) rfl (cellsI_one _) ?_; intro w9 hb9 hc9 hz9)
            refine bodyPost_ret (res_ct rfl _ n0 25 (cellsI [d0, d1, d2, d3, d4, d5, d6, d7, d8, d9, d10, d11]) _ rfl hb9 hu rfl (info_msg _ rfl)) rfl ⟨by rw [(Prod.mk.inj HR.out).1, (Prod.mk.inj HR.out).2]; rfl, ?_⟩
            exact Chg.belowOf HB7.out hc9 (fun k hk => by omega) (by have := HB7.out.size; have := HN0.out; omega)
          · have HR := Lib.hid (HT2.out hck)
            have hne : (CK == 0) = false := by simp [hck]
            have hne2 : (CK != 0) = true := by simp [hck]
            clear HT1 HT2
            go_wp2_with (with_reducible refine ev_store rfl 25 (.tmp 2) (.tmp 99) rfl n0 (cellsI (bare3 0 0 0)) rfl rfl 25 _ HA7.out (by kernel_rfl) rfl (cellsI_one _) ?_; intro w9 hb9 hc9 hz9)
            refine bodyPost_ret (res_ct rfl _ n0 25 (cellsI (bare3 0 0 0)) _ rfl hb9 hu rfl (info_msg _ rfl)) rfl ⟨by rw [(Prod.mk.inj HR.out).1, (Prod.mk.inj HR.out).2]; rfl, ?_⟩
            exact Chg.belowOf HB7.out hc9 (fun k hk => by omega) (by have := HB7.out.size; have := HN0.out; omega)
    · have HR := Lib.hid (HPK2.out rfl)
      clear HPQ HPK2
      go_wp2_with (with_reducible refine ev_store rfl 25 (.tmp 2) (.tmp 79) rfl n0 (cellsI (bare3 0 0 0)) rfl rfl 25 _ HA8.out (by kernel_rfl) rfl (cellsI_one _) ?_; intro w9 hb9 hc9 hz9)
      refine bodyPost_ret (res_ct rfl _ n0 25 (cellsI (bare3 0 0 0)) _ rfl hb9 hu rfl (info_msg _ rfl)) rfl ⟨by rw [(Prod.mk.inj HR.out).1, (Prod.mk.inj HR.out).2]; rfl, ?_⟩
      exact Chg.belowOf HB8.out hc9 (fun k hk => by omega) (by have := HB8.out.size; have := HN0.out; omega)
  · have HR := Lib.hid (HPK.out hno)
    clear hno HFK HRP HPK HP1 HP3
    go_wp2_with (with_reducible refine ev_store rfl 25 (.tmp 2) (.tmp 55) rfl n0 (cellsI (bare3 0 0 0)) rfl rfl 25 _ HA5.out (by kernel_rfl) rfl (cellsI_one _) ?_; intro w9 hb9 hc9 hz9)
    refine bodyPost_ret (res_ct rfl _ n0 25 (cellsI (bare3 0 0 0)) _ rfl hb9 hu rfl (info_msg _ rfl)) rfl ⟨by rw [(Prod.mk.inj HR.out).1, (Prod.mk.inj HR.out).2]; rfl, ?_⟩
    exact Chg.belowOf HB5.out hc9 (fun k hk => by omega) (by have := HB5.out.size; have := HN0.out; omega)
end Go.Proofs.YtanihdpgblkeaaaGreatDoor
