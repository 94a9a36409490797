/-
  Messages as texts (reeve's layer 36): the reference's Parse.
-/
import Derived.Test.YtanihdpgblkeaaaGreatDoorLetterRefLine
import Derived.Test.YtanihdpgblkeaaaGreatDoorLetterParse
namespace Go.Proofs.YtanihdpgblkeaaaGreatDoor
open Go.RowKit
set_option linter.unusedVariables false
set_option linter.unusedSimpArgs false

theorem rowV_ofM {w : World} {v : Value} {l : List Int} (h : RowN w v l) : RowV 0 w v (l.map (Value.int .i64)) := by
  rcases h with ⟨p, cap, rfl, rfl⟩ | ⟨b, off, cap, rfl, hb, hc, _⟩
  · exact .inl ⟨p, cap, rfl, rfl⟩
  · refine .inr ⟨b, off, cap, by rw [List.length_map], Nat.zero_le _, hb, fun j x hj => ?_⟩
    rw [List.getElem?_map] at hj
    cases h2 : l[j]? with
    | none => rw [h2] at hj; cases hj
    | some y => rw [h2] at hj; injection hj with hj; rw [← hj]; exact hc j y h2
theorem firstKM_step {ws : List (List UInt8)} {f t : Int} {q : Nat} (hq : q ≤ 8) : (parseKM q f t ws = none → firstKM f t ws q (9 - q) = firstKM f t ws (q + 1) (9 - (q + 1))) ∧ ∀ v, parseKM q f t ws = some v → firstKM f t ws q (9 - q) = some v := by
  obtain ⟨m, hm⟩ : ∃ m, 9 - q = m + 1 := ⟨8 - q, by omega⟩
  rw [hm, show 9 - (q + 1) = m by omega]
  constructor
  · intro h; conv => lhs; unfold firstKM
    rw [h]
  · intro v h; conv => lhs; unfold firstKM
    rw [h]
set_option maxRecDepth 100000 in
set_option maxHeartbeats 12800000 in
theorem ref36_parse (s : ByteArray) (hs : s.size ≤ 50000) (w : World) :
    Calls Tryz.prog 12 #[.string s] w fun e w' => e = .returned (.tuple #[.agg (cellsI (parseM (wordsL s.data.toList)).1), .int .i64 (parseM (wordsL s.data.toList)).2]) ∧ Below w.heap.size w w' := by
  obtain ⟨i0, hi, hz, hsize, hby⟩ : ∃ i, Tryz.prog.info? 9 = some i ∧ i.zero = some (.string ⟨#[]⟩) ∧ i.size = 1 ∧ i.bytes = 16 := ⟨_, rfl, rfl, rfl, rfl⟩
  have HII := Lib.hid hi
  clear hi
  have hu := Tryz.underlying25
  have hok := words_ok s.data.toList
  have hsum := words_sum s.data.toList
  rw [Lib.size_eq] at hs
  have WW0 := fun wx => ref06_words s (by rw [Lib.size_eq]; omega) wx
  generalize wordsL s.data.toList = WS at *
  obtain ⟨PR, hPR⟩ : ∃ R, parseM WS = R := ⟨_, rfl⟩
  rw [hPR]
  obtain ⟨PV, PE⟩ := PR
  have HPR := Lib.hid hPR
  have WW := Lib.hid WW0
  have HOK := Lib.hid hok
  have HSUM := Lib.hid (Nat.le_trans hsum (show _ ≤ 50001 by omega))
  obtain ⟨n0, hn0⟩ : ∃ n, w.heap.size = n := ⟨_, rfl⟩
  obtain ⟨W, hW⟩ : ∃ W, w.alloc (.cells (cellsI (bare3 0 0 0)) 25) = W := ⟨_, rfl⟩
  have HA0 : Hid (Blk W n0 (cellsI (bare3 0 0 0)) 25) := Lib.hid (by rw [← hW, ← hn0]; exact Blk.new w _ _)
  have hl0 : Below w.heap.size w W := by rw [← hW]; exact (Below.refl w.heap.size w).alloc (Nat.le_refl _) _
  have HL0 : Hid (Below n0 w W) := Lib.hid (by rw [← hn0]; exact hl0)
  have HW : Hid (w.alloc (.cells #[.int .i64 0, .int .i64 0, .int .i64 0, .int .i64 0, .int .i64 0, .int .i64 0, .int .i64 0, .int .i64 0, .int .i64 0, .int .i64 0, .int .i64 0, .int .i64 0] 25) = W) := Lib.hid hW
  have HN0 := Lib.hid hn0
  rw [hn0]
  clear hW hn0 hPR WW0 hl0 hok hsum hs
  go_enter Tryz.func12, Tryz.ntmps12
  go_upto_region 1 with fail
  rw [HW.out]
  try rw [HN0.out]
  clear HW
  go_wp2_with fail
  refine (WW.out _).mono ?_
  rintro e w2 ⟨vw, rfl, hvw, hb2⟩
  have HA2 := Lib.hid (HA0.out.below hb2 HA0.out.lt)
  have HB2 := Lib.hid (HL0.out.trans (hb2.mono (by have := HL0.out.size; have := HN0.out; omega)))
  have HVW := Lib.hid hvw
  obtain ⟨pw, cw, rfl⟩ := hvw.row.len
  rw [List.length_map]
  obtain ⟨nw, hnw⟩ : ∃ n, WS.length = n := ⟨_, rfl⟩
  rw [hnw]
  rw [List.length_map, hnw] at HVW
  clear hb2 hvw HA0 HL0 WW
  by_cases h3 : nw < 3
  · have h3I : (nw : Int) < 3 := by omega
    have HR := Lib.hid (HPR.out.symm.trans (parseM_short (by omega)))
    clear hnw h3
    go_wp2_with (with_reducible refine ev_store rfl 25 (.tmp 2) (.tmp 18) rfl n0 (cellsI (bare3 0 0 0)) rfl rfl 25 _ HA2.out (by kernel_rfl) rfl (cellsI_one _) ?_; intro w9 hb9 hc9 hz9)
    refine bodyPost_ret (res_ct rfl _ n0 25 (cellsI (bare3 0 0 0)) _ rfl hb9 hu rfl (info_msg _ rfl)) rfl ⟨by rw [(Prod.mk.inj HR.out).1, (Prod.mk.inj HR.out).2]; rfl, ?_⟩
    exact Chg.belowOf HB2.out hc9 (fun k hk => by omega) (by have := HB2.out.size; have := HN0.out; omega)
  have h3I : ¬ (nw : Int) < 3 := by omega
  obtain ⟨x0, x1, x2, r, hws⟩ : ∃ x0 x1 x2 r, WS = x0 :: x1 :: x2 :: r := by
    match WS, hnw with
    | [], h => simp at h; omega
    | [_], h => simp at h; omega
    | [_, _], h => simp at h; omega
    | a :: b :: c :: r, _ => exact ⟨a, b, c, r, rfl⟩
  obtain ⟨nr, hnr⟩ : ∃ n, r.length = n := ⟨_, rfl⟩
  have hnw3 : nw = nr + 3 := by rw [← hnw, hws, ← hnr]; rfl
  obtain ⟨gw, cells, hpw, hgl, hcw⟩ : ∃ g : Nat, ∃ _ : Unit, pw = some ⟨g, 0, none⟩ ∧ g < w2.heap.size ∧ nw ≤ cw := by
    obtain ⟨_, ⟨h2, _⟩ | ⟨g, cap, cur, h2, h3, h4, h5, _⟩⟩ := HVW.out
    · injection h2 with _ h2 _; omega
    · injection h2 with h2 _ h6; rw [h6]; exact ⟨g, (), h2, (Array.getElem?_eq_some_iff.1 h4).1, by rw [List.length_map, hnw] at h5; exact h5⟩
  subst hpw
  have hcells : ∀ j y, WS[j]? = some y → w2.cell? ⟨gw, j, none⟩ = some (.string (strL y)) := by
    intro j y hy
    have h := World.ownsRow.cells HVW.out (g := gw) rfl j (.string (strL y)) (by rw [List.getElem?_map, List.getElem?_map, hy]; rfl)
    have e : (⟨gw, 0, none⟩ : Addr).add j = ⟨gw, j, none⟩ := by simp [Addr.add]; intro h; exact h.symm
    rw [e] at h
    exact h
  have cw0 := hcells 0 x0 (by rw [hws]; rfl)
  have cw1 := hcells 1 x1 (by rw [hws]; rfl)
  have cw2 := hcells 2 x2 (by rw [hws]; rfl)
  obtain ⟨ad, cr, had⟩ : ∃ (ad : Addr) (cr : Nat), (ad = ⟨gw, 0, none⟩ ∧ cr = 0 ∧ cw = 3 ∧ nr = 0) ∨ (ad = ⟨gw, 3, none⟩ ∧ cr = cw - 3 ∧ 3 < cw) := by
    by_cases h : cw = 3
    · exact ⟨_, _, .inl ⟨rfl, rfl, h, by omega⟩⟩
    · exact ⟨_, _, .inr ⟨rfl, rfl, by omega⟩⟩
  have hrc : ∀ j y, (r.map strL)[j]? = some y → w2.cell? (ad.add j) = some (.string y) := by
    intro j y hj
    rw [List.getElem?_map] at hj
    cases hy : r[j]? with
    | none => rw [hy] at hj; cases hj
    | some z =>
      rw [hy] at hj
      injection hj with hj
      rw [← hj]
      have hjr := (List.getElem?_eq_some_iff.1 hy).1
      rcases had with ⟨_, _, _, h0⟩ | ⟨rfl, _, _⟩
      · omega
      · have e : (⟨gw, 3, none⟩ : Addr).add j = ⟨gw, j + 3, none⟩ := by unfold Addr.add; split <;> simp_all <;> omega
        rw [e]
        exact hcells (j + 3) z (by rw [hws]; exact hy)
  have HRC := Lib.hid hrc
  have hokA : ∀ y ∈ x0 :: x1 :: x2 :: r, okW y := by rw [← hws]; exact HOK.out
  have hok2 : ∀ y ∈ x0 :: r, okW y := fun y hy => hokA y (by rcases List.mem_cons.1 hy with rfl | h; simp; simp [h])
  have hsm : sumW (x0 :: x1 :: x2 :: r) ≤ 50001 := by rw [← hws]; exact HSUM.out
  simp only [sumW_cons] at hsm
  have hx1 : (strL x1).size ≤ 100000 := by rw [strL_size]; omega
  have hx2 : (strL x2).size ≤ 100000 := by rw [strL_size]; omega
  have hjl : (Lib.join (x0 :: r) [32]).length ≤ 50000 := by have := join_len x0 r; rw [sumW_cons] at this; omega
  have hrl : r.length ≤ 100000 := by
    have : r.length ≤ sumW r := by
      clear hsm hws hok2 hokA hrc HRC hjl hnr
      induction r with
      | nil => simp
      | cons y r ih => rw [sumW_cons, List.length_cons]; omega
    omega
  have hjw := words_head x0 r hok2
  have HNR : Hid ((r.map strL).length = nr) := Lib.hid (by rw [List.length_map]; exact hnr)
  have HNR2 : Hid (nr ≤ 1000000) := Lib.hid (by omega)
  have HAD : Hid ((ad = ⟨gw, 0, none⟩ ∧ cr = 0 ∧ (nw : Int) - 3 = (nr : Int) ∧ (cw : Int) = 3 ∧ nr = 0 ∧ nw = 3) ∨ (ad = ⟨gw, 3, none⟩ ∧ cr = cw - 3 ∧ (nw : Int) - 3 = (nr : Int) ∧ (3 : Int) < cw ∧ 3 < cw ∧ nw = nr + 3)) := Lib.hid (by
    rcases had with ⟨h1, h2, h3, h4⟩ | ⟨h1, h2, h3⟩
    · exact .inl ⟨h1, h2, by omega, by omega, h4, by omega⟩
    · exact .inr ⟨h1, h2, by omega, by omega, h3, hnw3⟩)
  have hjr : (Lib.join r [32]).length ≤ 50000 := by
    have := head_len x0 r; rw [sumW_cons] at this; simp at this; omega
  have JN0 := fun (wx : World) (v : Value) (h : RowS wx v (r.map strL)) => ref06_join v r wx h (by omega) (by omega)
  have hhl : (x0 ++ [32] ++ Lib.join r [32]).length ≤ 100000 := by have := head_len x0 r; rw [sumW_cons] at this; omega
  have RP0 := fun (q : Nat) (wx : World) (vn : Value) (h : RowS wx vn ((namesWM (q : Int)).map strL)) => ref07_parse (strL (x0 ++ [32] ++ Lib.join r [32])) (kindWM (q : Int)) vn (namesWM (q : Int)) wx (by rw [strL_size]; omega) h (by have := (namesWM_len q).1; omega) (namesWM_len q).2
  rw [strL_list, hjw] at RP0
  have P1 := fun wx => ref35_parseName (strL x1) wx
  have P2 := fun wx => ref35_parseName (strL x2) wx
  rw [strL_list] at P1 P2
  have hpm1 := @parseM_names x0 x1 x2 r
  have hpm3 := @parseM_three x0 x1 x2 r
  rw [← hws, HPR.out] at hpm1 hpm3
  generalize parseN x1 = PN1 at P1 hpm1 hpm3
  generalize parseN x2 = PN2 at P2 hpm1 hpm3
  obtain ⟨PF, B1⟩ := PN1
  obtain ⟨PT, B2⟩ := PN2
  simp only at P1 P2 hpm1 hpm3
  obtain ⟨HS, hHS⟩ : ∃ S, strL (x0 ++ [32] ++ Lib.join r [32]) = S := ⟨_, rfl⟩
  rw [hHS] at RP0
  have hhd : strL (x0 ++ [32] ++ Lib.join r [32]) = strL x0 ++ ⟨#[32]⟩ ++ strL (Lib.join r [32]) := by rw [strL_app, strL_app]; rfl
  rw [hHS] at hhd
  obtain ⟨JS, hJS⟩ : ∃ S, strL (Lib.join r [32]) = S := ⟨_, rfl⟩
  rw [hJS] at JN0 hhd
  have zx : (strL x0).size ≤ 50000 := by rw [strL_size]; omega
  have zj : JS.size ≤ 50000 := by rw [← hJS, strL_size]; exact hjr
  obtain ⟨X0, hX0⟩ : ∃ X, strL x0 = X := ⟨_, rfl⟩
  rw [hX0] at hhd cw0 zx
  have HHD := Lib.hid hhd.symm
  have JN := Lib.hid JN0
  have HRP := Lib.hid RP0
  have P1 := Lib.hid P1
  have P2 := Lib.hid P2
  have HP1 := Lib.hid hpm1
  have HP3 := Lib.hid hpm3
  have hc0 : (0 : Int) < (nw : Int) := by omega
  have hc1 : (1 : Int) < (nw : Int) := by omega
  have hc2 : (2 : Int) < (nw : Int) := by omega
  have hcwI : (nw : Int) ≤ (cw : Int) := by omega
  have hcw1 : (1 : Int) ≤ (cw : Int) := by omega
  have HRS : Hid (RowS w2 (.slice (some ad) nr cr) (r.map strL)) := Lib.hid (.inr ⟨gw, ad.off, cr, by
    rw [HNR.out]
    rcases HAD.out with ⟨rfl, _⟩ | ⟨rfl, _⟩ <;> rfl, hgl, fun j y hj => by
    have h := HRC.out j y hj
    have e : ad.add j = ⟨gw, ad.off + j, none⟩ := by rcases HAD.out with ⟨rfl, _⟩ | ⟨rfl, _⟩ <;> (unfold Addr.add; split <;> simp_all <;> omega)
    rw [e] at h
    exact h, by rw [HNR.out]; rcases HAD.out with ⟨_, h1, _, _, h2, _⟩ | ⟨_, h1, h2, _⟩ <;> omega⟩)
  have HGL := Lib.hid hgl
  obtain ⟨XS1, hXS1⟩ : ∃ X, strL x1 = X := ⟨_, rfl⟩
  obtain ⟨XS2, hXS2⟩ : ∃ X, strL x2 = X := ⟨_, rfl⟩
  rw [hXS1] at cw1 P1
  rw [hXS2] at cw2 P2
  clear hws hcells had hrc hokA hok2 hsm hx1 hx2 hjl hrl hjw JN0 RP0 hpm1 hpm3 hHS hJS hhd hX0 HVW HOK HSUM hnw hnr h3 hnw3 hcw hXS1 hXS2 hhl hjr HRC
  go_wp2_with fail
  refine (P1.out _).mono ?_
  rintro e w3 ⟨rfl, rfl⟩
  go_wp2_with fail
  refine (P2.out _).mono ?_
  rintro e w4 ⟨rfl, rfl⟩
  clear P1 P2 cw1 cw2
  have HD0 : Hid (Below w2.heap.size w2 w2) := Lib.hid (Below.refl _ _)
  go_wp2_with fail
  go_loopg [9] 8 (fun gg k wr => ∃ q : Nat, 1 ≤ q ∧ q ≤ 9 ∧ gg = 9 - q ∧ k = .int .i64 q ∧ Hid (Blk wr n0 (cellsI (bare3 0 0 0)) 25) ∧ Hid (Below n0 w wr) ∧ Hid (Below w2.heap.size w2 wr) ∧ Hid (firstKM PF PT (x0 :: r) 1 8 = firstKM PF PT (x0 :: r) q (9 - q)))
  case atStart => exact ⟨1, by omega, by omega, rfl, rfl, HA2, HB2, HD0, Lib.hid rfl⟩
  case round =>
    obtain ⟨q, hq1, hq8, hg, rfl, HA, HB, HD, HF⟩ := hrel
    have hg := hg.symm
    subst hg
    clear HA2 HB2 HD0
    by_cases hlt : q ≤ 8
    · have hqI : (q : Int) ≤ 8 := by omega
      cases B1 with
      | false =>
        have HR := Lib.hid (HP1.out (by simp))
        clear HRP HP1 HP3
        go_wp2_with (with_reducible refine ev_store rfl 25 (.tmp 2) (.tmp 72) rfl n0 (cellsI (bare3 0 0 0)) rfl rfl 25 _ HA.out (by kernel_rfl) rfl (cellsI_one _) ?_; intro w9 hb9 hc9 hz9)
        refine bodyPost_ret (res_ct rfl _ n0 25 (cellsI (bare3 0 0 0)) _ rfl hb9 hu rfl (info_msg _ rfl)) rfl ⟨by rw [(Prod.mk.inj HR.out).1, (Prod.mk.inj HR.out).2]; rfl, ?_⟩
        exact Chg.belowOf HB.out hc9 (fun k hk => by omega) (by have := HB.out.size; have := HN0.out; omega)
      | true =>
      cases B2 with
      | false =>
        have HR := Lib.hid (HP1.out (by simp))
        clear HRP HP1 HP3
        go_wp2_with (with_reducible refine ev_store rfl 25 (.tmp 2) (.tmp 72) rfl n0 (cellsI (bare3 0 0 0)) rfl rfl 25 _ HA.out (by kernel_rfl) rfl (cellsI_one _) ?_; intro w9 hb9 hc9 hz9)
        refine bodyPost_ret (res_ct rfl _ n0 25 (cellsI (bare3 0 0 0)) _ rfl hb9 hu rfl (info_msg _ rfl)) rfl ⟨by rw [(Prod.mk.inj HR.out).1, (Prod.mk.inj HR.out).2]; rfl, ?_⟩
        exact Chg.belowOf HB.out hc9 (fun k hk => by omega) (by have := HB.out.size; have := HN0.out; omega)
      | true =>
      have hq17 : 1 ≤ (q : Int) ∧ (q : Int) ≤ 8 := by omega
      have WD0 := fun w => ref36_wordsK (q : Int) hq17 w
      have ND := Lib.hid (fun w => ref36_names (q : Int) hq17 w)
      have RP := HRP.out q
      rw [show ((q : Int)).toNat = q by omega] at WD0
      obtain ⟨s1, s2⟩ := firstKM_step (ws := x0 :: r) (f := PF) (t := PT) hlt
      have he := rowR_errM (x0 :: r) (kindWM (q : Int)) (namesWM (q : Int))
      have hlen := rowR_lengthM (ws := x0 :: r) (word := kindWM (q : Int)) (names := namesWM (q : Int))
      have hpk : parseKM q PF PT (x0 :: r) = if (rowR (x0 :: r) (kindWM (q : Int)) (namesWM (q : Int))).2 = 0 then (if checkM (layZ (offsM (q : Int)) (rowR (x0 :: r) (kindWM (q : Int)) (namesWM (q : Int))).1 (bare3 (q : Int) PF PT)) = 0 then some (layZ (offsM (q : Int)) (rowR (x0 :: r) (kindWM (q : Int)) (namesWM (q : Int))).1 (bare3 (q : Int) PF PT)) else none) else none := rfl
      generalize rowR (x0 :: r) (kindWM (q : Int)) (namesWM (q : Int)) = RR at RP he hlen hpk
      obtain ⟨N1, E1⟩ := RR
      simp only at he hlen hpk
      rw [show (namesWM (q : Int)).length = (offsM (q : Int)).length by unfold namesWM; rw [List.length_map]] at hlen
      have HE := Lib.hid he
      have HPK : Hid (E1 = 0 → N1.length = (offsM (q : Int)).length ∧ ((checkM (layZ (offsM (q : Int)) N1 (bare3 (q : Int) PF PT)) = 0 → parseKM q PF PT (x0 :: r) = some (layZ (offsM (q : Int)) N1 (bare3 (q : Int) PF PT))) ∧ (checkM (layZ (offsM (q : Int)) N1 (bare3 (q : Int) PF PT)) ≠ 0 → parseKM q PF PT (x0 :: r) = none))) := Lib.hid (fun h => ⟨hlen h, fun h2 => by rw [hpk, if_pos h, if_pos h2], fun h2 => by rw [hpk, if_pos h, if_neg h2]⟩)
      have HPK2 : Hid (E1 = 2 → parseKM q PF PT (x0 :: r) = none) := Lib.hid (fun h => by rw [hpk, if_neg (by omega)])
      have HSOME : Hid (∀ v, parseKM q PF PT (x0 :: r) = some v → (PV, PE) = (v, 0)) := Lib.hid (fun v h => by
        rw [HP3.out rfl rfl]; unfold parseGM; rw [HF.out, s2 v h])
      have HNONE : Hid (parseKM q PF PT (x0 :: r) = none → firstKM PF PT (x0 :: r) 1 8 = firstKM PF PT (x0 :: r) (q + 1) (9 - (q + 1))) := Lib.hid (fun h => by rw [HF.out]; exact s1 h)
      obtain ⟨KW, hKW⟩ : ∃ S, strL (kindWM (q : Int)) = S := ⟨_, rfl⟩
      rw [hKW] at WD0 RP
      have WD := Lib.hid WD0
      have RP := Lib.hid RP
      have q0 : (0 : Int) ≤ (q : Int) := by omega
      have q8 : (q : Int) < 9 := by omega
      have cx0 := keepB HD.out cw0 hgl
      have hglr : gw < wr.heap.size := Nat.lt_of_lt_of_le hgl HD.out.size
      have HRSr : Hid (RowS wr (.slice (some ad) nr cr) (r.map strL)) := Lib.hid (HRS.out.below HD.out (Nat.le_refl _))
      have hw0 : Below wr.heap.size wr wr.drew := ⟨rfl, rfl, rfl, Nat.le_refl _, fun _ _ => rfl⟩
      clear s1 s2 he hlen hpk HF hq17 hKW WD0
      go_upto_region 9 with fail
      refine wp_region_held_drew (S := (fun w' => w'.cell? ⟨gw, 0, none⟩ = some (.string X0))) (by kernel_rfl) cx0 (fun hHeld => ?_)
      refine wpAnyH_take (i := 0) (oi := ({ dst := some 44, op := Op.move (Operand.tmp 4), type := 67, pos := "ref.go:60", after := #[], guard := none })) (v := (.slice (some ⟨gw, 0, none⟩) nw cw)) rfl (by kernel_rfl) (by kernel_rfl) (by kernel_rfl) (fun _ _ _ h => h) (Or.inl ⟨by rfl, ?_⟩) (by assumption) ?_
      · (intro w hSw; (try rcases HAD.out with ⟨rfl, rfl, h1, h2, h3, h4⟩ | ⟨rfl, rfl, h1, h2, h3, h4⟩); all_goals (go_simp; try (first | omega | (intro h0; exfalso; omega) | rw [if_pos (by omega), if_neg (by omega)])))
      try simp only [Act.put, List.setIfInBounds_toArray, List.set_cons_zero, List.set_cons_succ]
      refine wpAnyH_take (i := 1) (oi := ({ dst := some 45, op := Op.indexAddr 67 (Operand.tmp 44) (Operand.const (Value.int IntKind.i64 0)), type := 0, pos := "ref.go:60", after := #[{ on := 0, ground := Ground.data }], guard := none })) (v := (.pointer (some ⟨gw, 0, none⟩))) rfl (by kernel_rfl) (by kernel_rfl) (by kernel_rfl) (fun _ _ _ h => h) (Or.inl ⟨by rfl, ?_⟩) (by assumption) ?_
      · (intro w hSw; (try rcases HAD.out with ⟨rfl, rfl, h1, h2, h3, h4⟩ | ⟨rfl, rfl, h1, h2, h3, h4⟩); all_goals (go_simp; try (first | omega | (intro h0; exfalso; omega) | rw [if_pos (by omega), if_neg (by omega)])))
      try simp only [Act.put, List.setIfInBounds_toArray, List.set_cons_zero, List.set_cons_succ]
      refine wpAnyH_take (i := 2) (oi := ({ dst := some 46, op := Op.load 9 (Operand.tmp 45), type := 9, pos := "ref.go:60", after := #[{ on := 1, ground := Ground.data }], guard := none })) (v := (.string X0)) rfl (by kernel_rfl) (by kernel_rfl) (by kernel_rfl) (fun _ _ _ h => h) (Or.inl ⟨by rfl, ?_⟩) (by assumption) ?_
      · (intro w hSw; (try rcases HAD.out with ⟨rfl, rfl, h1, h2, h3, h4⟩ | ⟨rfl, rfl, h1, h2, h3, h4⟩); all_goals (go_simp; try (first | omega | (intro h0; exfalso; omega) | rw [if_pos (by omega), if_neg (by omega)])))
      try simp only [Act.put, List.setIfInBounds_toArray, List.set_cons_zero, List.set_cons_succ]
      refine wpAnyH_take (i := 3) (oi := ({ dst := some 47, op := Op.binOp BinOp.add 9 (Operand.tmp 46) (Operand.const (Value.string { data := #[32] })) 9, type := 9, pos := "ref.go:60", after := #[{ on := 2, ground := Ground.data }], guard := none })) (v := (.string (X0 ++ ⟨#[32]⟩))) rfl (by kernel_rfl) (by kernel_rfl) (by kernel_rfl) (fun _ _ _ h => h) (Or.inl ⟨by rfl, ?_⟩) (by assumption) ?_
      · (intro w hSw; (try rcases HAD.out with ⟨rfl, rfl, h1, h2, h3, h4⟩ | ⟨rfl, rfl, h1, h2, h3, h4⟩); all_goals (go_simp; try (first | omega | (intro h0; exfalso; omega) | rw [if_pos (by omega), if_neg (by omega)])))
      try simp only [Act.put, List.setIfInBounds_toArray, List.set_cons_zero, List.set_cons_succ]
      refine wpAnyH_take (i := 4) (oi := ({ dst := some 48, op := Op.move (Operand.tmp 4), type := 67, pos := "ref.go:60", after := #[], guard := none })) (v := (.slice (some ⟨gw, 0, none⟩) nw cw)) rfl (by kernel_rfl) (by kernel_rfl) (by kernel_rfl) (fun _ _ _ h => h) (Or.inl ⟨by rfl, ?_⟩) (by assumption) ?_
      · (intro w hSw; (try rcases HAD.out with ⟨rfl, rfl, h1, h2, h3, h4⟩ | ⟨rfl, rfl, h1, h2, h3, h4⟩); all_goals (go_simp; try (first | omega | (intro h0; exfalso; omega) | rw [if_pos (by omega), if_neg (by omega)])))
      try simp only [Act.put, List.setIfInBounds_toArray, List.set_cons_zero, List.set_cons_succ]
      refine wpAnyH_take (i := 5) (oi := ({ dst := some 49, op := Op.slice 67 (Operand.tmp 48) (some (Operand.const (Value.int IntKind.i64 3))) none none, type := 67, pos := "ref.go:60", after := #[{ on := 4, ground := Ground.data }], guard := none })) (v := (.slice (some ad) nr cr)) rfl (by kernel_rfl) (by kernel_rfl) (by kernel_rfl) (fun _ _ _ h => h) (Or.inl ⟨by rfl, ?_⟩) (by assumption) ?_
      · (intro w hSw; (try rcases HAD.out with ⟨rfl, rfl, h1, h2, h3, h4⟩ | ⟨rfl, rfl, h1, h2, h3, h4⟩); all_goals (go_simp; try (first | omega | (intro h0; exfalso; omega) | rw [if_pos (by omega), if_neg (by omega)])))
      try simp only [Act.put, List.setIfInBounds_toArray, List.set_cons_zero, List.set_cons_succ]
      refine wpAnyH_take (i := 9) (oi := ({ dst := some 53, op := Op.move (Operand.tmp 9), type := 3, pos := "ref.go:60", after := #[], guard := none })) (v := (.int .i64 q)) rfl (by kernel_rfl) (by kernel_rfl) (by kernel_rfl) (fun _ _ _ h => h) (Or.inl ⟨by rfl, ?_⟩) (by assumption) ?_
      · (intro w hSw; (try rcases HAD.out with ⟨rfl, rfl, h1, h2, h3, h4⟩ | ⟨rfl, rfl, h1, h2, h3, h4⟩); all_goals (go_simp; try (first | omega | (intro h0; exfalso; omega) | rw [if_pos (by omega), if_neg (by omega)])))
      try simp only [Act.put, List.setIfInBounds_toArray, List.set_cons_zero, List.set_cons_succ]
      refine wpAnyH_take (i := 12) (oi := ({ dst := some 56, op := Op.move (Operand.tmp 9), type := 3, pos := "ref.go:60", after := #[], guard := none })) (v := (.int .i64 q)) rfl (by kernel_rfl) (by kernel_rfl) (by kernel_rfl) (fun _ _ _ h => h) (Or.inl ⟨by rfl, ?_⟩) (by assumption) ?_
      · (intro w hSw; (try rcases HAD.out with ⟨rfl, rfl, h1, h2, h3, h4⟩ | ⟨rfl, rfl, h1, h2, h3, h4⟩); all_goals (go_simp; try (first | omega | (intro h0; exfalso; omega) | rw [if_pos (by omega), if_neg (by omega)])))
      try simp only [Act.put, List.setIfInBounds_toArray, List.set_cons_zero, List.set_cons_succ]
      refine wpAnyH_ready (rs := [6]) (by kernel_rfl) (by simp) (AllReadyH.cons (o := ({ dst := some 50, op := Op.call { callee := Callee.value (Operand.func 48), args := #[Operand.tmp 49], argTypes := #[67] }, type := 9, pos := "ref.go:60", after := #[{ on := 5, ground := Ground.data }], guard := none })) rfl (fun K hK => ?_) AllReadyH.nil)
      go_simp
      refine (JN.out _ _ (HRSr.out.below hw0 (Nat.le_refl _))).mono ?_
      rintro e wc ⟨rfl, rfl⟩
      go_wp2_with fail
      clear hHeld
      refine hK.out _ _ (keepB hw0 cx0 hglr) (fun hHeld => ?_)
      clear hK K
      try simp only [Act.put, List.setIfInBounds_toArray, List.set_cons_zero, List.set_cons_succ]
      refine wpAnyH_take (i := 7) (oi := ({ dst := some 51, op := Op.binOp BinOp.add 9 (Operand.tmp 47) (Operand.tmp 50) 9, type := 9, pos := "ref.go:60", after := #[{ on := 3, ground := Ground.data }, { on := 6, ground := Ground.data }], guard := none })) (v := (.string (X0 ++ ⟨#[32]⟩ ++ JS))) rfl (by kernel_rfl) (by kernel_rfl) (by kernel_rfl) (fun _ _ _ h => h) (Or.inl ⟨by rfl, ?_⟩) (by assumption) ?_
      · (intro w hSw; (try rcases HAD.out with ⟨rfl, rfl, h1, h2, h3, h4⟩ | ⟨rfl, rfl, h1, h2, h3, h4⟩); all_goals (go_simp; try (first | omega | (intro h0; exfalso; omega) | rw [if_pos (by omega), if_neg (by omega)])))
      try simp only [Act.put, List.setIfInBounds_toArray, List.set_cons_zero, List.set_cons_succ]
      refine wpAnyH_ready (rs := [8]) (by kernel_rfl) (by simp) (AllReadyH.cons (o := ({ dst := some 52, op := Op.call { callee := Callee.value (Operand.func 37), args := #[], argTypes := #[] }, type := 67, pos := "ref.go:60", after := #[{ on := 6, ground := Ground.chain }], guard := none })) rfl (fun K hK => ?_) AllReadyH.nil)
      go_simp
      refine (WD.out _).mono ?_
      rintro e wc ⟨bw, rfl, hwl, hwc, hbq⟩
      replace hw0 := hw0.trans (Below.mono (by exact ⟨hbq.os, hbq.tape, hbq.output, hbq.size, hbq.block⟩) hw0.size)
      clear hbq
      go_wp2_with fail
      clear hHeld
      refine hK.out _ _ (keepB hw0 cx0 hglr) (fun hHeld => ?_)
      clear hK K
      try simp only [Act.put, List.setIfInBounds_toArray, List.set_cons_zero, List.set_cons_succ]
      refine wpAnyH_take (i := 10) (oi := ({ dst := some 54, op := Op.indexAddr 67 (Operand.tmp 52) (Operand.tmp 53), type := 0, pos := "ref.go:60", after := #[{ on := 8, ground := Ground.data }, { on := 9, ground := Ground.data }], guard := none })) (v := (.pointer (some ⟨bw, q, none⟩))) rfl (by kernel_rfl) (by kernel_rfl) (by kernel_rfl) (fun _ _ _ h => h) (Or.inl ⟨by rfl, ?_⟩) (by assumption) ?_
      · (intro w hSw; (try rcases HAD.out with ⟨rfl, rfl, h1, h2, h3, h4⟩ | ⟨rfl, rfl, h1, h2, h3, h4⟩); all_goals (go_simp; try (first | omega | (intro h0; exfalso; omega) | rw [if_pos (by omega), if_neg (by omega)])))
      try simp only [Act.put, List.setIfInBounds_toArray, List.set_cons_zero, List.set_cons_succ]
      refine wpAnyH_ready (rs := [11, 13]) (by kernel_rfl) (by simp) (AllReadyH.cons (o := ({ dst := some 55, op := Op.load 9 (Operand.tmp 54), type := 9, pos := "ref.go:60", after := #[{ on := 10, ground := Ground.data }], guard := none })) rfl (fun K hK => ?_) (AllReadyH.cons (o := ({ dst := some 57, op := Op.call { callee := Callee.value (Operand.func 39), args := #[Operand.tmp 56], argTypes := #[3] }, type := 67, pos := "ref.go:60", after := #[{ on := 12, ground := Ground.data }, { on := 8, ground := Ground.chain }], guard := none })) rfl (fun K hK => ?_) AllReadyH.nil))
      · go_simp
        clear hHeld
        refine hK.out _ _ (keepB hw0 cx0 hglr) (fun hHeld => ?_)
        clear hK K
        try simp only [Act.put, List.setIfInBounds_toArray, List.set_cons_zero, List.set_cons_succ]
        refine wpAnyH_ready (rs := [13]) (by kernel_rfl) (by simp) (AllReadyH.cons (o := ({ dst := some 57, op := Op.call { callee := Callee.value (Operand.func 39), args := #[Operand.tmp 56], argTypes := #[3] }, type := 67, pos := "ref.go:60", after := #[{ on := 12, ground := Ground.data }, { on := 8, ground := Ground.chain }], guard := none })) rfl (fun K hK => ?_) AllReadyH.nil)
        go_simp
        refine (ND.out _).mono ?_
        rintro e wc ⟨vn, rfl, hvn, hbq⟩
        replace hvn := Lib.hid hvn
        replace hwc := keepB hbq hwc hwl
        replace hw0 := hw0.trans (Below.mono (by exact ⟨hbq.os, hbq.tape, hbq.output, hbq.size, hbq.block⟩) hw0.size)
        clear hbq
        go_wp2_with fail
        clear hHeld
        refine hK.out _ _ (keepB hw0 cx0 hglr) (fun hHeld => ?_)
        clear hK K
        try simp only [Act.put, List.setIfInBounds_toArray, List.set_cons_zero, List.set_cons_succ]
        refine wpAnyH_ready (rs := [14]) (by kernel_rfl) (by simp) (AllReadyH.cons (o := ({ dst := some 58, op := Op.call { callee := Callee.value (Operand.func 47), args := #[Operand.tmp 51, Operand.tmp 55, Operand.tmp 57], argTypes := #[9, 9, 67] }, type := 78, pos := "ref.go:60", after := #[{ on := 7, ground := Ground.data }, { on := 11, ground := Ground.data }, { on := 13, ground := Ground.data }, { on := 13, ground := Ground.chain }], guard := none })) rfl (fun K hK => ?_) AllReadyH.nil)
        go_simp
        rw [HHD.out]
        refine (RP.out _ _ hvn.out).mono ?_
        rintro e wc ⟨vl, rfl, hvl, hbq⟩
        replace hvl := Lib.hid hvl
        replace hw0 := hw0.trans (Below.mono (by exact ⟨hbq.os, hbq.tape, hbq.output, hbq.size, hbq.block⟩) hw0.size)
        clear hbq
        go_wp2_with fail
        clear hHeld
        refine hK.out _ _ (keepB hw0 cx0 hglr) (fun hHeld => ?_)
        clear hK K
        try simp only [Act.put, List.setIfInBounds_toArray, List.set_cons_zero, List.set_cons_succ]
        refine wpAnyH_take (i := 15) (oi := ({ dst := some 43, op := Op.move (Operand.tmp 58), type := 78, pos := "ref.go:60", after := #[{ on := 14, ground := Ground.data }], guard := none })) (v := (.tuple #[vl, .int .i64 E1])) rfl (by kernel_rfl) (by kernel_rfl) (by kernel_rfl) (fun _ _ _ h => h) (Or.inl ⟨by rfl, ?_⟩) (by assumption) ?_
        · (intro w hSw; (try rcases HAD.out with ⟨rfl, rfl, h1, h2, h3, h4⟩ | ⟨rfl, rfl, h1, h2, h3, h4⟩); all_goals (go_simp; try (first | omega | (intro h0; exfalso; omega) | rw [if_pos (by omega), if_neg (by omega)])))
        try simp only [Act.put, List.setIfInBounds_toArray, List.set_cons_zero, List.set_cons_succ]
        refine wpAnyH_take (i := 16) (oi := ({ dst := some 59, op := Op.extract (Operand.tmp 43) 0, type := 60, pos := "ref.go:60", after := #[{ on := 15, ground := Ground.data }], guard := none })) (v := vl) rfl (by kernel_rfl) (by kernel_rfl) (by kernel_rfl) (fun _ _ _ h => h) (Or.inl ⟨by rfl, ?_⟩) (by assumption) ?_
        · (intro w hSw; (try rcases HAD.out with ⟨rfl, rfl, h1, h2, h3, h4⟩ | ⟨rfl, rfl, h1, h2, h3, h4⟩); all_goals (go_simp; try (first | omega | (intro h0; exfalso; omega) | rw [if_pos (by omega), if_neg (by omega)])))
        try simp only [Act.put, List.setIfInBounds_toArray, List.set_cons_zero, List.set_cons_succ]
        refine wpAnyH_take (i := 17) (oi := ({ dst := some 60, op := Op.extract (Operand.tmp 43) 1, type := 27, pos := "ref.go:60", after := #[{ on := 15, ground := Ground.data }, { on := 18, ground := Ground.gcOnly Departure.lateStores }], guard := none })) (v := (.int .i64 E1)) rfl (by kernel_rfl) (by kernel_rfl) (by kernel_rfl) (fun _ _ _ h => h) (Or.inl ⟨by rfl, ?_⟩) (by assumption) ?_
        · (intro w hSw; (try rcases HAD.out with ⟨rfl, rfl, h1, h2, h3, h4⟩ | ⟨rfl, rfl, h1, h2, h3, h4⟩); all_goals (go_simp; try (first | omega | (intro h0; exfalso; omega) | rw [if_pos (by omega), if_neg (by omega)])))
        try simp only [Act.put, List.setIfInBounds_toArray, List.set_cons_zero, List.set_cons_succ]
        refine wpAnyH_take (i := 18) (oi := ({ dst := some 10, op := Op.assign (Operand.tmp 59), type := 60, pos := "ref.go:60", after := #[{ on := 16, ground := Ground.data }, { on := 14, ground := Ground.chain }, { on := 0, ground := Ground.phase }, { on := 1, ground := Ground.phase }, { on := 2, ground := Ground.phase }, { on := 3, ground := Ground.phase }, { on := 4, ground := Ground.phase }, { on := 5, ground := Ground.phase }, { on := 6, ground := Ground.phase }, { on := 7, ground := Ground.phase }, { on := 8, ground := Ground.phase }, { on := 9, ground := Ground.phase }, { on := 10, ground := Ground.phase }, { on := 11, ground := Ground.phase }, { on := 12, ground := Ground.phase }, { on := 13, ground := Ground.phase }, { on := 14, ground := Ground.phase }, { on := 15, ground := Ground.phase }, { on := 16, ground := Ground.phase }, { on := 17, ground := Ground.textOnly Departure.lateStores }], guard := none })) (v := vl) rfl (by kernel_rfl) (by kernel_rfl) (by kernel_rfl) (fun _ _ _ h => h) (Or.inl ⟨by rfl, ?_⟩) (by assumption) ?_
        · (intro w hSw; (try rcases HAD.out with ⟨rfl, rfl, h1, h2, h3, h4⟩ | ⟨rfl, rfl, h1, h2, h3, h4⟩); all_goals (go_simp; try (first | omega | (intro h0; exfalso; omega) | rw [if_pos (by omega), if_neg (by omega)])))
        try simp only [Act.put, List.setIfInBounds_toArray, List.set_cons_zero, List.set_cons_succ]
        refine wpAnyH_take (i := 19) (oi := ({ dst := some 11, op := Op.assign (Operand.tmp 60), type := 27, pos := "ref.go:60", after := #[{ on := 17, ground := Ground.data }, { on := 18, ground := Ground.chain }, { on := 0, ground := Ground.phase }, { on := 1, ground := Ground.phase }, { on := 2, ground := Ground.phase }, { on := 3, ground := Ground.phase }, { on := 4, ground := Ground.phase }, { on := 5, ground := Ground.phase }, { on := 6, ground := Ground.phase }, { on := 7, ground := Ground.phase }, { on := 8, ground := Ground.phase }, { on := 9, ground := Ground.phase }, { on := 10, ground := Ground.phase }, { on := 11, ground := Ground.phase }, { on := 12, ground := Ground.phase }, { on := 13, ground := Ground.phase }, { on := 14, ground := Ground.phase }, { on := 15, ground := Ground.phase }, { on := 16, ground := Ground.phase }, { on := 17, ground := Ground.phase }, { on := 18, ground := Ground.phase }], guard := none })) (v := (.int .i64 E1)) rfl (by kernel_rfl) (by kernel_rfl) (by kernel_rfl) (fun _ _ _ h => h) (Or.inl ⟨by rfl, ?_⟩) (by assumption) ?_
        · (intro w hSw; (try rcases HAD.out with ⟨rfl, rfl, h1, h2, h3, h4⟩ | ⟨rfl, rfl, h1, h2, h3, h4⟩); all_goals (go_simp; try (first | omega | (intro h0; exfalso; omega) | rw [if_pos (by omega), if_neg (by omega)])))
        try simp only [Act.put, List.setIfInBounds_toArray, List.set_cons_zero, List.set_cons_succ]
        refine wpAnyH_done (by kernel_rfl) ?_ _
        clear hHeld
        have B2 := Lib.hid (HB.out.trans (hw0.mono (by have := HB.out.size; have := HN0.out; omega)))
        have HA2 := Lib.hid (HA.out.below hw0 HA.out.lt)
        have HD2 := Lib.hid (HD.out.trans (hw0.mono HD.out.size))
        rcases HE.out with rfl | rfl
        · obtain ⟨hlen, hpk⟩ := HPK.out rfl
          obtain ⟨d0, d1, d2, d3, d4, d5, d6, d7, d8, d9, d10, d11, hd⟩ := twelve_of (show (layZ (offsM (q : Int)) N1 (bare3 (q : Int) PF PT)).length = 12 by rw [layZ_length]; rfl)
          have MD := ref35_made (q : Int) PF PT N1 hlen vl wc (rowV_ofM hvl.out)
          have CD := fun w => ref35_check (layZ (offsM (q : Int)) N1 (bare3 (q : Int) PF PT)) (by rw [layZ_length]; rfl) w
          rw [hd] at MD CD hpk
          have e8 : cellsI [d0, d1, d2, d3, d4, d5, d6, d7, d8, d9, d10, d11] = #[.int .i64 d0, .int .i64 d1, .int .i64 d2, .int .i64 d3, .int .i64 d4, .int .i64 d5, .int .i64 d6, .int .i64 d7, .int .i64 d8, .int .i64 d9, .int .i64 d10, .int .i64 d11] := rfl
          rw [e8] at MD CD
          obtain ⟨CK, hCK⟩ : ∃ c, checkM [d0, d1, d2, d3, d4, d5, d6, d7, d8, d9, d10, d11] = c := ⟨_, rfl⟩
          rw [hCK] at CD hpk
          have MD := Lib.hid MD
          have CD := Lib.hid CD
          have HPD := Lib.hid hpk
          clear hd hlen hCK hpk e8 hvl hw0 HPK
          go_wp2_with fail
          refine MD.out.mono ?_
          rintro e w5 ⟨rfl, hb5⟩
          have HA5 := Lib.hid ((HA2.out.below hb5 HA2.out.lt).alloc (.cells #[.int .i64 d0, .int .i64 d1, .int .i64 d2, .int .i64 d3, .int .i64 d4, .int .i64 d5, .int .i64 d6, .int .i64 d7, .int .i64 d8, .int .i64 d9, .int .i64 d10, .int .i64 d11] 25))
          have B5 := Lib.hid ((B2.out.trans (hb5.mono (by have := B2.out.size; have := HN0.out; omega))).alloc (by have := B2.out.size; have := HN0.out; have := hb5.size; omega) (.cells #[.int .i64 d0, .int .i64 d1, .int .i64 d2, .int .i64 d3, .int .i64 d4, .int .i64 d5, .int .i64 d6, .int .i64 d7, .int .i64 d8, .int .i64 d9, .int .i64 d10, .int .i64 d11] 25))
          have HD5 := Lib.hid ((HD2.out.trans (hb5.mono HD2.out.size)).alloc (by have := HD2.out.size; have := hb5.size; omega) (.cells #[.int .i64 d0, .int .i64 d1, .int .i64 d2, .int .i64 d3, .int .i64 d4, .int .i64 d5, .int .i64 d6, .int .i64 d7, .int .i64 d8, .int .i64 d9, .int .i64 d10, .int .i64 d11] 25))
          have KV := Lib.hid (Blk.new w5 #[.int .i64 d0, .int .i64 d1, .int .i64 d2, .int .i64 d3, .int .i64 d4, .int .i64 d5, .int .i64 d6, .int .i64 d7, .int .i64 d8, .int .i64 d9, .int .i64 d10, .int .i64 d11] 25)
          clear hb5
          go_upto_region 12 with fail
          obtain ⟨w6, hw6⟩ : ∃ w6, w5.alloc (.cells #[.int .i64 d0, .int .i64 d1, .int .i64 d2, .int .i64 d3, .int .i64 d4, .int .i64 d5, .int .i64 d6, .int .i64 d7, .int .i64 d8, .int .i64 d9, .int .i64 d10, .int .i64 d11] 25) = w6 := ⟨_, rfl⟩
          rw [hw6] at HA5 B5 HD5 KV ⊢
          clear hw6
          obtain ⟨bv, hbv⟩ : ∃ b, w5.heap.size = b := ⟨_, rfl⟩
          rw [hbv] at KV ⊢
          clear hbv
          have v0 := KV.out.cell (i := 0) rfl
          have v1 := KV.out.cell (i := 1) rfl
          have v2 := KV.out.cell (i := 2) rfl
          have v3 := KV.out.cell (i := 3) rfl
          have v4 := KV.out.cell (i := 4) rfl
          have v5 := KV.out.cell (i := 5) rfl
          have v6 := KV.out.cell (i := 6) rfl
          have v7 := KV.out.cell (i := 7) rfl
          have v8 := KV.out.cell (i := 8) rfl
          have v9 := KV.out.cell (i := 9) rfl
          have v10 := KV.out.cell (i := 10) rfl
          have v11 := KV.out.cell (i := 11) rfl
          go_wp2_with fail
          refine (CD.out _).mono ?_
          rintro e w7 ⟨rfl, hb7⟩
          have HA7 := Lib.hid (HA5.out.below hb7 HA5.out.lt)
          have KV7 := Lib.hid (KV.out.below hb7 KV.out.lt)
          have B7 := Lib.hid (B5.out.trans (hb7.mono (by have := B5.out.size; have := HN0.out; omega)))
          have HD7 := Lib.hid (HD5.out.trans (hb7.mono HD5.out.size))
          clear hb7 v0 v1 v2 v3 v4 v5 v6 v7 v8 v9 v10 v11 KV B5 HA5 HD5
          have v0 := KV7.out.cell (i := 0) rfl
          have v1 := KV7.out.cell (i := 1) rfl
          have v2 := KV7.out.cell (i := 2) rfl
          have v3 := KV7.out.cell (i := 3) rfl
          have v4 := KV7.out.cell (i := 4) rfl
          have v5 := KV7.out.cell (i := 5) rfl
          have v6 := KV7.out.cell (i := 6) rfl
          have v7 := KV7.out.cell (i := 7) rfl
          have v8 := KV7.out.cell (i := 8) rfl
          have v9 := KV7.out.cell (i := 9) rfl
          have v10 := KV7.out.cell (i := 10) rfl
          have v11 := KV7.out.cell (i := 11) rfl
          by_cases hck : CK = 0
          · have HR := Lib.hid (HSOME.out _ (HPD.out.1 hck))
            subst hck
            clear HPD HSOME HNONE
            go_wp2_with (with_reducible refine ev_store rfl 25 (.tmp 2) (.tmp 71) rfl n0 (cellsI [d0, d1, d2, d3, d4, d5, d6, d7, d8, d9, d10, d11]) rfl rfl 25 _ HA7.out (by kernel_rfl) rfl (cellsI_one _) ?_; intro w9 hb9 hc9 hz9)
            refine bodyPost_ret (res_ct rfl _ n0 25 (cellsI [d0, d1, d2, d3, d4, d5, d6, d7, d8, d9, d10, d11]) _ rfl hb9 hu rfl (info_msg _ rfl)) rfl ⟨by rw [(Prod.mk.inj HR.out).1, (Prod.mk.inj HR.out).2]; rfl, ?_⟩
            exact Chg.belowOf B7.out hc9 (fun k hk => by omega) (by have := B7.out.size; have := HN0.out; omega)
          · have HN := Lib.hid (HNONE.out (HPD.out.2 hck))
            have hne : (CK == 0) = false := by simp [hck]
            have hne2 : (CK != 0) = true := by simp [hck]
            clear HPD HSOME HNONE
            go_wp2_with fail
            go_roundg (9 - (q + 1))
            case measure => omega
            case rel => exact ⟨q + 1, by omega, by omega, rfl, by push_cast; go_num, HA7, B7, HD7, HN⟩
        · have HN := Lib.hid (HNONE.out (HPK2.out rfl))
          clear HPK HPK2 HSOME HNONE
          go_wp2_with fail
          go_roundg (9 - (q + 1))
          case measure => omega
          case rel => exact ⟨q + 1, by omega, by omega, rfl, by push_cast; go_num, HA2, B2, HD2, HN⟩
      · go_simp
        refine (ND.out _).mono ?_
        rintro e wc ⟨vn, rfl, hvn, hbq⟩
        replace hvn := Lib.hid hvn
        replace hwc := keepB hbq hwc hwl
        replace hw0 := hw0.trans (Below.mono (by exact ⟨hbq.os, hbq.tape, hbq.output, hbq.size, hbq.block⟩) hw0.size)
        clear hbq
        go_wp2_with fail
        clear hHeld
        refine hK.out _ _ (keepB hw0 cx0 hglr) (fun hHeld => ?_)
        clear hK K
        try simp only [Act.put, List.setIfInBounds_toArray, List.set_cons_zero, List.set_cons_succ]
        refine wpAnyH_ready (rs := [11]) (by kernel_rfl) (by simp) (AllReadyH.cons (o := ({ dst := some 55, op := Op.load 9 (Operand.tmp 54), type := 9, pos := "ref.go:60", after := #[{ on := 10, ground := Ground.data }], guard := none })) rfl (fun K hK => ?_) AllReadyH.nil)
        go_simp
        clear hHeld
        refine hK.out _ _ (keepB hw0 cx0 hglr) (fun hHeld => ?_)
        clear hK K
        try simp only [Act.put, List.setIfInBounds_toArray, List.set_cons_zero, List.set_cons_succ]
        refine wpAnyH_ready (rs := [14]) (by kernel_rfl) (by simp) (AllReadyH.cons (o := ({ dst := some 58, op := Op.call { callee := Callee.value (Operand.func 47), args := #[Operand.tmp 51, Operand.tmp 55, Operand.tmp 57], argTypes := #[9, 9, 67] }, type := 78, pos := "ref.go:60", after := #[{ on := 7, ground := Ground.data }, { on := 11, ground := Ground.data }, { on := 13, ground := Ground.data }, { on := 13, ground := Ground.chain }], guard := none })) rfl (fun K hK => ?_) AllReadyH.nil)
        go_simp
        rw [HHD.out]
        refine (RP.out _ _ hvn.out).mono ?_
        rintro e wc ⟨vl, rfl, hvl, hbq⟩
        replace hvl := Lib.hid hvl
        replace hw0 := hw0.trans (Below.mono (by exact ⟨hbq.os, hbq.tape, hbq.output, hbq.size, hbq.block⟩) hw0.size)
        clear hbq
        go_wp2_with fail
        clear hHeld
        refine hK.out _ _ (keepB hw0 cx0 hglr) (fun hHeld => ?_)
        clear hK K
        try simp only [Act.put, List.setIfInBounds_toArray, List.set_cons_zero, List.set_cons_succ]
        refine wpAnyH_take (i := 15) (oi := ({ dst := some 43, op := Op.move (Operand.tmp 58), type := 78, pos := "ref.go:60", after := #[{ on := 14, ground := Ground.data }], guard := none })) (v := (.tuple #[vl, .int .i64 E1])) rfl (by kernel_rfl) (by kernel_rfl) (by kernel_rfl) (fun _ _ _ h => h) (Or.inl ⟨by rfl, ?_⟩) (by assumption) ?_
        · (intro w hSw; (try rcases HAD.out with ⟨rfl, rfl, h1, h2, h3, h4⟩ | ⟨rfl, rfl, h1, h2, h3, h4⟩); all_goals (go_simp; try (first | omega | (intro h0; exfalso; omega) | rw [if_pos (by omega), if_neg (by omega)])))
        try simp only [Act.put, List.setIfInBounds_toArray, List.set_cons_zero, List.set_cons_succ]
        refine wpAnyH_take (i := 16) (oi := ({ dst := some 59, op := Op.extract (Operand.tmp 43) 0, type := 60, pos := "ref.go:60", after := #[{ on := 15, ground := Ground.data }], guard := none })) (v := vl) rfl (by kernel_rfl) (by kernel_rfl) (by kernel_rfl) (fun _ _ _ h => h) (Or.inl ⟨by rfl, ?_⟩) (by assumption) ?_
        · (intro w hSw; (try rcases HAD.out with ⟨rfl, rfl, h1, h2, h3, h4⟩ | ⟨rfl, rfl, h1, h2, h3, h4⟩); all_goals (go_simp; try (first | omega | (intro h0; exfalso; omega) | rw [if_pos (by omega), if_neg (by omega)])))
        try simp only [Act.put, List.setIfInBounds_toArray, List.set_cons_zero, List.set_cons_succ]
        refine wpAnyH_take (i := 17) (oi := ({ dst := some 60, op := Op.extract (Operand.tmp 43) 1, type := 27, pos := "ref.go:60", after := #[{ on := 15, ground := Ground.data }, { on := 18, ground := Ground.gcOnly Departure.lateStores }], guard := none })) (v := (.int .i64 E1)) rfl (by kernel_rfl) (by kernel_rfl) (by kernel_rfl) (fun _ _ _ h => h) (Or.inl ⟨by rfl, ?_⟩) (by assumption) ?_
        · (intro w hSw; (try rcases HAD.out with ⟨rfl, rfl, h1, h2, h3, h4⟩ | ⟨rfl, rfl, h1, h2, h3, h4⟩); all_goals (go_simp; try (first | omega | (intro h0; exfalso; omega) | rw [if_pos (by omega), if_neg (by omega)])))
        try simp only [Act.put, List.setIfInBounds_toArray, List.set_cons_zero, List.set_cons_succ]
        refine wpAnyH_take (i := 18) (oi := ({ dst := some 10, op := Op.assign (Operand.tmp 59), type := 60, pos := "ref.go:60", after := #[{ on := 16, ground := Ground.data }, { on := 14, ground := Ground.chain }, { on := 0, ground := Ground.phase }, { on := 1, ground := Ground.phase }, { on := 2, ground := Ground.phase }, { on := 3, ground := Ground.phase }, { on := 4, ground := Ground.phase }, { on := 5, ground := Ground.phase }, { on := 6, ground := Ground.phase }, { on := 7, ground := Ground.phase }, { on := 8, ground := Ground.phase }, { on := 9, ground := Ground.phase }, { on := 10, ground := Ground.phase }, { on := 11, ground := Ground.phase }, { on := 12, ground := Ground.phase }, { on := 13, ground := Ground.phase }, { on := 14, ground := Ground.phase }, { on := 15, ground := Ground.phase }, { on := 16, ground := Ground.phase }, { on := 17, ground := Ground.textOnly Departure.lateStores }], guard := none })) (v := vl) rfl (by kernel_rfl) (by kernel_rfl) (by kernel_rfl) (fun _ _ _ h => h) (Or.inl ⟨by rfl, ?_⟩) (by assumption) ?_
        · (intro w hSw; (try rcases HAD.out with ⟨rfl, rfl, h1, h2, h3, h4⟩ | ⟨rfl, rfl, h1, h2, h3, h4⟩); all_goals (go_simp; try (first | omega | (intro h0; exfalso; omega) | rw [if_pos (by omega), if_neg (by omega)])))
        try simp only [Act.put, List.setIfInBounds_toArray, List.set_cons_zero, List.set_cons_succ]
        refine wpAnyH_take (i := 19) (oi := ({ dst := some 11, op := Op.assign (Operand.tmp 60), type := 27, pos := "ref.go:60", after := #[{ on := 17, ground := Ground.data }, { on := 18, ground := Ground.chain }, { on := 0, ground := Ground.phase }, { on := 1, ground := Ground.phase }, { on := 2, ground := Ground.phase }, { on := 3, ground := Ground.phase }, { on := 4, ground := Ground.phase }, { on := 5, ground := Ground.phase }, { on := 6, ground := Ground.phase }, { on := 7, ground := Ground.phase }, { on := 8, ground := Ground.phase }, { on := 9, ground := Ground.phase }, { on := 10, ground := Ground.phase }, { on := 11, ground := Ground.phase }, { on := 12, ground := Ground.phase }, { on := 13, ground := Ground.phase }, { on := 14, ground := Ground.phase }, { on := 15, ground := Ground.phase }, { on := 16, ground := Ground.phase }, { on := 17, ground := Ground.phase }, { on := 18, ground := Ground.phase }], guard := none })) (v := (.int .i64 E1)) rfl (by kernel_rfl) (by kernel_rfl) (by kernel_rfl) (fun _ _ _ h => h) (Or.inl ⟨by rfl, ?_⟩) (by assumption) ?_
        · (intro w hSw; (try rcases HAD.out with ⟨rfl, rfl, h1, h2, h3, h4⟩ | ⟨rfl, rfl, h1, h2, h3, h4⟩); all_goals (go_simp; try (first | omega | (intro h0; exfalso; omega) | rw [if_pos (by omega), if_neg (by omega)])))
        try simp only [Act.put, List.setIfInBounds_toArray, List.set_cons_zero, List.set_cons_succ]
        refine wpAnyH_done (by kernel_rfl) ?_ _
        clear hHeld
        have B2 := Lib.hid (HB.out.trans (hw0.mono (by have := HB.out.size; have := HN0.out; omega)))
        have HA2 := Lib.hid (HA.out.below hw0 HA.out.lt)
        have HD2 := Lib.hid (HD.out.trans (hw0.mono HD.out.size))
        rcases HE.out with rfl | rfl
        · obtain ⟨hlen, hpk⟩ := HPK.out rfl
          obtain ⟨d0, d1, d2, d3, d4, d5, d6, d7, d8, d9, d10, d11, hd⟩ := twelve_of (show (layZ (offsM (q : Int)) N1 (bare3 (q : Int) PF PT)).length = 12 by rw [layZ_length]; rfl)
          have MD := ref35_made (q : Int) PF PT N1 hlen vl wc (rowV_ofM hvl.out)
          have CD := fun w => ref35_check (layZ (offsM (q : Int)) N1 (bare3 (q : Int) PF PT)) (by rw [layZ_length]; rfl) w
          rw [hd] at MD CD hpk
          have e8 : cellsI [d0, d1, d2, d3, d4, d5, d6, d7, d8, d9, d10, d11] = #[.int .i64 d0, .int .i64 d1, .int .i64 d2, .int .i64 d3, .int .i64 d4, .int .i64 d5, .int .i64 d6, .int .i64 d7, .int .i64 d8, .int .i64 d9, .int .i64 d10, .int .i64 d11] := rfl
          rw [e8] at MD CD
          obtain ⟨CK, hCK⟩ : ∃ c, checkM [d0, d1, d2, d3, d4, d5, d6, d7, d8, d9, d10, d11] = c := ⟨_, rfl⟩
          rw [hCK] at CD hpk
          have MD := Lib.hid MD
          have CD := Lib.hid CD
          have HPD := Lib.hid hpk
          clear hd hlen hCK hpk e8 hvl hw0 HPK
          go_wp2_with fail
          refine MD.out.mono ?_
          rintro e w5 ⟨rfl, hb5⟩
          have HA5 := Lib.hid ((HA2.out.below hb5 HA2.out.lt).alloc (.cells #[.int .i64 d0, .int .i64 d1, .int .i64 d2, .int .i64 d3, .int .i64 d4, .int .i64 d5, .int .i64 d6, .int .i64 d7, .int .i64 d8, .int .i64 d9, .int .i64 d10, .int .i64 d11] 25))
          have B5 := Lib.hid ((B2.out.trans (hb5.mono (by have := B2.out.size; have := HN0.out; omega))).alloc (by have := B2.out.size; have := HN0.out; have := hb5.size; omega) (.cells #[.int .i64 d0, .int .i64 d1, .int .i64 d2, .int .i64 d3, .int .i64 d4, .int .i64 d5, .int .i64 d6, .int .i64 d7, .int .i64 d8, .int .i64 d9, .int .i64 d10, .int .i64 d11] 25))
          have HD5 := Lib.hid ((HD2.out.trans (hb5.mono HD2.out.size)).alloc (by have := HD2.out.size; have := hb5.size; omega) (.cells #[.int .i64 d0, .int .i64 d1, .int .i64 d2, .int .i64 d3, .int .i64 d4, .int .i64 d5, .int .i64 d6, .int .i64 d7, .int .i64 d8, .int .i64 d9, .int .i64 d10, .int .i64 d11] 25))
          have KV := Lib.hid (Blk.new w5 #[.int .i64 d0, .int .i64 d1, .int .i64 d2, .int .i64 d3, .int .i64 d4, .int .i64 d5, .int .i64 d6, .int .i64 d7, .int .i64 d8, .int .i64 d9, .int .i64 d10, .int .i64 d11] 25)
          clear hb5
          go_upto_region 12 with fail
          obtain ⟨w6, hw6⟩ : ∃ w6, w5.alloc (.cells #[.int .i64 d0, .int .i64 d1, .int .i64 d2, .int .i64 d3, .int .i64 d4, .int .i64 d5, .int .i64 d6, .int .i64 d7, .int .i64 d8, .int .i64 d9, .int .i64 d10, .int .i64 d11] 25) = w6 := ⟨_, rfl⟩
          rw [hw6] at HA5 B5 HD5 KV ⊢
          clear hw6
          obtain ⟨bv, hbv⟩ : ∃ b, w5.heap.size = b := ⟨_, rfl⟩
          rw [hbv] at KV ⊢
          clear hbv
          have v0 := KV.out.cell (i := 0) rfl
          have v1 := KV.out.cell (i := 1) rfl
          have v2 := KV.out.cell (i := 2) rfl
          have v3 := KV.out.cell (i := 3) rfl
          have v4 := KV.out.cell (i := 4) rfl
          have v5 := KV.out.cell (i := 5) rfl
          have v6 := KV.out.cell (i := 6) rfl
          have v7 := KV.out.cell (i := 7) rfl
          have v8 := KV.out.cell (i := 8) rfl
          have v9 := KV.out.cell (i := 9) rfl
          have v10 := KV.out.cell (i := 10) rfl
          have v11 := KV.out.cell (i := 11) rfl
          go_wp2_with fail
          refine (CD.out _).mono ?_
          rintro e w7 ⟨rfl, hb7⟩
          have HA7 := Lib.hid (HA5.out.below hb7 HA5.out.lt)
          have KV7 := Lib.hid (KV.out.below hb7 KV.out.lt)
          have B7 := Lib.hid (B5.out.trans (hb7.mono (by have := B5.out.size; have := HN0.out; omega)))
          have HD7 := Lib.hid (HD5.out.trans (hb7.mono HD5.out.size))
          clear hb7 v0 v1 v2 v3 v4 v5 v6 v7 v8 v9 v10 v11 KV B5 HA5 HD5
          have v0 := KV7.out.cell (i := 0) rfl
          have v1 := KV7.out.cell (i := 1) rfl
          have v2 := KV7.out.cell (i := 2) rfl
          have v3 := KV7.out.cell (i := 3) rfl
          have v4 := KV7.out.cell (i := 4) rfl
          have v5 := KV7.out.cell (i := 5) rfl
          have v6 := KV7.out.cell (i := 6) rfl
          have v7 := KV7.out.cell (i := 7) rfl
          have v8 := KV7.out.cell (i := 8) rfl
          have v9 := KV7.out.cell (i := 9) rfl
          have v10 := KV7.out.cell (i := 10) rfl
          have v11 := KV7.out.cell (i := 11) rfl
          by_cases hck : CK = 0
          · have HR := Lib.hid (HSOME.out _ (HPD.out.1 hck))
            subst hck
            clear HPD HSOME HNONE
            go_wp2_with (with_reducible refine ev_store rfl 25 (.tmp 2) (.tmp 71) rfl n0 (cellsI [d0, d1, d2, d3, d4, d5, d6, d7, d8, d9, d10, d11]) rfl rfl 25 _ HA7.out (by kernel_rfl) rfl (cellsI_one _) ?_; intro w9 hb9 hc9 hz9)
            refine bodyPost_ret (res_ct rfl _ n0 25 (cellsI [d0, d1, d2, d3, d4, d5, d6, d7, d8, d9, d10, d11]) _ rfl hb9 hu rfl (info_msg _ rfl)) rfl ⟨by rw [(Prod.mk.inj HR.out).1, (Prod.mk.inj HR.out).2]; rfl, ?_⟩
            exact Chg.belowOf B7.out hc9 (fun k hk => by omega) (by have := B7.out.size; have := HN0.out; omega)
          · have HN := Lib.hid (HNONE.out (HPD.out.2 hck))
            have hne : (CK == 0) = false := by simp [hck]
            have hne2 : (CK != 0) = true := by simp [hck]
            clear HPD HSOME HNONE
            go_wp2_with fail
            go_roundg (9 - (q + 1))
            case measure => omega
            case rel => exact ⟨q + 1, by omega, by omega, rfl, by push_cast; go_num, HA7, B7, HD7, HN⟩
        · have HN := Lib.hid (HNONE.out (HPK2.out rfl))
          clear HPK HPK2 HSOME HNONE
          go_wp2_with fail
          go_roundg (9 - (q + 1))
          case measure => omega
          case rel => exact ⟨q + 1, by omega, by omega, rfl, by push_cast; go_num, HA2, B2, HD2, HN⟩
    · obtain rfl : q = 9 := by omega
      have HR : Hid ((PV, PE) = (bare3 0 0 0, 2)) := Lib.hid (by
        by_cases h : B1 = true ∧ B2 = true
        · rw [HP3.out h.1 h.2]; unfold parseGM; rw [HF.out]; rfl
        · exact HP1.out h)
      clear HF
      go_wp2_with (with_reducible refine ev_store rfl 25 (.tmp 2) (.tmp 72) rfl n0 (cellsI (bare3 0 0 0)) rfl rfl 25 _ HA.out (by kernel_rfl) rfl (cellsI_one _) ?_; intro w9 hb9 hc9 hz9)
      refine bodyPost_ret (res_ct rfl _ n0 25 (cellsI (bare3 0 0 0)) _ rfl hb9 hu rfl (info_msg _ rfl)) rfl ⟨by rw [(Prod.mk.inj HR.out).1, (Prod.mk.inj HR.out).2]; rfl, ?_⟩
      exact Chg.belowOf HB.out hc9 (fun k hk => by omega) (by have := HB.out.size; have := HN0.out; omega)
end Go.Proofs.YtanihdpgblkeaaaGreatDoor
