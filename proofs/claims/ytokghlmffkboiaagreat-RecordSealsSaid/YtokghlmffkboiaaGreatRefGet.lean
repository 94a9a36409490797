/-
  The event of bytes (the reference of reeve's layer 18): the walk.
-/
import Derived.Test.YtokghlmffkboiaaGreatRefPut
namespace Go.Proofs.YtokghlmffkboiaaGreat
open Go.RowKit
set_option linter.unusedVariables false
set_option linter.unusedSimpArgs false

theorem rest_extract (s : ByteArray) (a : Nat) : rest (s.extract a s.size) 0 = rest s a := by
  unfold rest
  rw [List.drop_zero, ByteArray.data_extract, Array.toList_extract, List.extract_eq_take_drop]
  exact List.take_of_length_le (by rw [List.length_drop]; exact Nat.le_refl _)
theorem first_num (s : ByteArray) (h : 0 < s.size) : Oct.numFrom 0 ((rest s 0).take 1) = (s[0]'h).toNat := by
  have h2 : rest s 0 = s[0] :: (s.data.toList.drop 1) := by
    unfold rest
    rw [List.drop_eq_getElem_cons (show 0 < s.data.toList.length from h)]
    rfl
  rw [h2]
  show Oct.numFrom 0 [s[0]] = _
  simp [Oct.numFrom]
theorem layZ_take (os : List Nat) (ts d : List Int) (i o : Nat) (n : Int) (ho : os[i]? = some o) (hl : ts.length = i) : layZ (os.take (i + 1)) (ts ++ [n]) d = (layZ (os.take i) ts d).set o n := by
  obtain ⟨hi, e⟩ := List.getElem?_eq_some_iff.1 ho
  rw [List.take_succ_eq_append_getElem hi, layZ_append _ _ _ _ _ (by rw [List.length_take]; omega), e]
  rfl
theorem nums_bare (k : Int) : (numsL (bare k)).length = (offs k).length := by unfold numsL; rw [List.length_map]; rfl
set_option maxRecDepth 100000 in
set_option maxHeartbeats 3200000 in
theorem ref18_get (s : ByteArray) (hs : s.size ≤ maxLen) (w : World) :
    Calls Tryz.prog 45 #[.string s] w fun e w' => e = .returned (.tuple #[.agg (cellsI (getL s).1), .int .i64 (getL s).2]) ∧ Below w.heap.size w w' := by
  have hu := Tryz.underlying25
  have hs63 : s.size ≤ 9223372036854775807 := by unfold maxLen at hs; omega
  obtain ⟨K, hK⟩ : ∃ K : Nat, Oct.numFrom 0 ((rest s 0).take 1) = K := ⟨_, rfl⟩
  have hG : getL s = if s.size = 0 then (bare 0, 3) else if offs (K : Int) = [] then (bare 0, 5) else if (getGo s (offs (K : Int)) 1 (bare (K : Int))).2.2 ≠ 0 then (bare 0, (getGo s (offs (K : Int)) 1 (bare (K : Int))).2.2) else
      if (getGo s (offs (K : Int)) 1 (bare (K : Int))).2.1 < s.size then (bare 0, 2) else if checkL (getGo s (offs (K : Int)) 1 (bare (K : Int))).1 ≠ 0 then (bare 0, checkL (getGo s (offs (K : Int)) 1 (bare (K : Int))).1) else ((getGo s (offs (K : Int)) 1 (bare (K : Int))).1, 0) := by
    unfold getL; rw [hK]
  obtain ⟨GD, hGD⟩ : ∃ g, (getL s).1 = g := ⟨_, rfl⟩
  obtain ⟨GE, hGE⟩ : ∃ g, (getL s).2 = g := ⟨_, rfl⟩
  have hG2 : getL s = (GD, GE) := by rw [← hGD, ← hGE]
  rw [hG2] at hG
  rw [hGD, hGE]
  clear hGD hGE hG2
  have HG := Lib.hid hG
  have HK := Lib.hid hK
  clear hK hG
  obtain ⟨W, hW⟩ : ∃ W, w.alloc (.cells (cellsI (bare 0)) 25) = W := ⟨_, rfl⟩
  have HA : Hid (Blk W w.heap.size (cellsI (bare 0)) 25) := Lib.hid (by rw [← hW]; exact Blk.new w _ _)
  have HL : Hid (Below w.heap.size w W) := Lib.hid (by rw [← hW]; exact (Below.refl w.heap.size w).alloc (Nat.le_refl _) _)
  have hWz : W.heap.size = w.heap.size + 1 := by rw [← hW]; simp
  have HWZ := Lib.hid hWz
  have HW : Hid (w.alloc (.cells #[.int .i64 0, .int .i64 0, .int .i64 0, .int .i64 0, .int .i64 0, .int .i64 0, .int .i64 0, .int .i64 0] 25) = W) := Lib.hid hW
  clear hW hWz
  by_cases hz : s.size = 0
  · have HG2 : Hid ((GD, GE) = (bare 0, 3)) := Lib.hid (by rw [HG.out, if_pos hz])
    have hz1 : ((s.size : Int) == 0) = true := by simp [hz]
    clear hz HG HK
    go_enter Tryz.func45, Tryz.ntmps45
    go_upto_region 1 with fail
    rw [HW.out]
    clear HW
    go_wp2_with (with_reducible refine ev_store rfl 25 (.tmp 2) (.tmp 15) rfl (w.heap.size) (cellsI (bare 0)) rfl rfl 25 _ HA.out (by kernel_rfl) rfl (cellsI_one _) ?_; intro w9 hb9 hc9 hz9)
    refine bodyPost_ret (res_ct rfl _ w.heap.size 25 (cellsI (bare 0)) _ rfl hb9 hu rfl (info_event _ rfl)) rfl ⟨by rw [(Prod.mk.inj HG2.out).1, (Prod.mk.inj HG2.out).2]; rfl, ?_⟩
    exact Chg.belowOf HL.out hc9 (fun k hk => by omega) (by have := (HL.out).size; omega)
  · have hz' : 0 < s.size := by omega
    have hG1 : (GD, GE) = if offs (K : Int) = [] then (bare 0, 5) else if (getGo s (offs (K : Int)) 1 (bare (K : Int))).2.2 ≠ 0 then (bare 0, (getGo s (offs (K : Int)) 1 (bare (K : Int))).2.2) else
      if (getGo s (offs (K : Int)) 1 (bare (K : Int))).2.1 < s.size then (bare 0, 2) else if checkL (getGo s (offs (K : Int)) 1 (bare (K : Int))).1 ≠ 0 then (bare 0, checkL (getGo s (offs (K : Int)) 1 (bare (K : Int))).1) else ((getGo s (offs (K : Int)) 1 (bare (K : Int))).1, 0) := by rw [HG.out, if_neg hz]
    have HG1 := Lib.hid hG1
    have hz1 : ((s.size : Int) == 0) = false := by rw [beq_eq_false_iff_ne]; omega
    have hby : ((s[0]'hz').toNat : Int) = (K : Int) := by rw [← first_num s hz', HK.out]
    have hKb : (K : Int) ≤ 255 := by have := (UInt8.toNat_lt (s[0]'hz')); omega
    clear hG1 HG hz HK
    go_enter Tryz.func45, Tryz.ntmps45
    go_upto_region 1 with fail
    rw [HW.out]
    clear HW
    go_upto_region 4 with fail
    go_wp2_with fail
    refine (ref18_names K W).mono ?_
    rintro e w1 ⟨rfl, hb1⟩
    have L1 : Hid (Below (w.heap.size + 1) W w1) := Lib.hid (hb1.mono (by rw [HWZ.out]; exact Nat.le_refl _))
    clear hb1 hby
    by_cases h0 : offs (K : Int) = []
    · have hn0 : nm K = [] := (nm_nil K).2 h0
      rw [hn0]
      have HG2 : Hid ((GD, GE) = (bare 0, 5)) := Lib.hid (by rw [HG1.out, if_pos h0])
      have HA1 := Lib.hid (HA.out.below L1.out (by omega))
      have HL1 := Lib.hid (HL.out.trans (L1.out.mono (by omega)))
      clear h0 hn0
      have hstr : str [] = ⟨#[]⟩ := rfl
      rw [hstr]
      clear hstr
      go_wp2_with (with_reducible refine ev_store rfl 25 (.tmp 2) (.tmp 22) rfl (w.heap.size) (cellsI (bare 0)) rfl rfl 25 _ HA1.out (by kernel_rfl) rfl (cellsI_one _) ?_; intro w9 hb9 hc9 hz9)
      refine bodyPost_ret (res_ct rfl _ w.heap.size 25 (cellsI (bare 0)) _ rfl hb9 hu rfl (info_event _ rfl)) rfl ⟨by rw [(Prod.mk.inj HG2.out).1, (Prod.mk.inj HG2.out).2]; rfl, ?_⟩
      exact Chg.belowOf (HL1.out) hc9 (fun k hk => by omega) (by have := (HL1.out).size; omega)
    · have hne : (str (nm K)).toList.isEmpty = false := str_empty_ne (fun e => h0 ((nm_nil K).1 (str_inj (e.trans rfl : str (nm K) = str []))))
      generalize str (nm (K : Int)) = S at hne ⊢
      have hG2 : (GD, GE) = if (getGo s (offs (K : Int)) 1 (bare (K : Int))).2.2 ≠ 0 then (bare 0, (getGo s (offs (K : Int)) 1 (bare (K : Int))).2.2) else
        if (getGo s (offs (K : Int)) 1 (bare (K : Int))).2.1 < s.size then (bare 0, 2) else if checkL (getGo s (offs (K : Int)) 1 (bare (K : Int))).1 ≠ 0 then (bare 0, checkL (getGo s (offs (K : Int)) 1 (bare (K : Int))).1) else ((getGo s (offs (K : Int)) 1 (bare (K : Int))).1, 0) := by rw [HG1.out, if_neg h0]
      obtain ⟨G, hGG⟩ : ∃ G, getGo s (offs (K : Int)) 1 (bare (K : Int)) = G := ⟨_, rfl⟩
      rw [hGG] at hG2
      have HG2 := Lib.hid hG2
      have HGG := Lib.hid hGG
      have hNUM := ref18_numbers (bare K) rfl
      have hcb : cellsI (bare K) = #[.int .i64 K, .int .i64 0, .int .i64 0, .int .i64 0, .int .i64 0, .int .i64 0, .int .i64 0, .int .i64 0] := rfl
      rw [hcb] at hNUM
      have HNUM := Lib.hid hNUM
      obtain ⟨n, hn⟩ : ∃ n, (offs (K : Int)).length = n := ⟨_, rfl⟩
      have hn5 := offs_length (K : Int)
      have hnb := nums_bare (K : Int)
      rw [hn] at hn5 hnb
      have HN := Lib.hid hn
      have HNB := Lib.hid hnb
      clear hG2 hGG HG1 h0 hn hNUM hcb hnb
      go_wp2_with fail
      go_loopg [5, 6] n (fun gg s5 s6 wr => ∃ (i a : Nat) (ts : List Int), i ≤ n ∧ gg = n - i ∧ ts.length = i ∧ a ≤ s.size ∧ s6 = .int .i64 a ∧ Hid (OwnI (w.heap.size + 1) wr s5 ts) ∧ Hid (Below (w.heap.size + 1) W wr) ∧ Hid (getGo s ((offs (K : Int)).drop i) a (layZ ((offs (K : Int)).take i) ts (bare K)) = G))
      case atStart => exact ⟨0, 1, [], by omega, rfl, rfl, by omega, rfl, Lib.hid (OwnI.nil _ _), L1, HGG⟩
      case round =>
        clear L1 HGG
        obtain ⟨i, a, ts, hi', hg, hts, ha, rfl, HO, HLr, HGG⟩ := hrel
        have hg := hg.symm
        subst hg
        have HTS := Lib.hid hts
        have hz2 : w.heap.size + 1 ≤ wr.heap.size := by have := HLr.out.size; rw [HWZ.out] at this; exact this
        obtain ⟨p, cap, e5⟩ := HO.out.len
        subst e5
        rw [hts] at HO ⊢
        clear hts
        go_wp2_with fail
        refine (HNUM.out _).mono ?_
        rintro e w2 ⟨v2, rfl, ho2, hb2⟩
        obtain ⟨p2, cap2, rfl⟩ := ho2.len
        rw [HNB.out]
        have HO2 := Lib.hid (HO.out.below hb2 (Nat.le_refl _))
        have HL2 := Lib.hid (HLr.out.trans (hb2.mono hz2))
        have hz3 : w.heap.size + 1 ≤ w2.heap.size := by have := hb2.size; omega
        clear ho2 hb2 HO HLr
        have HA2 := Lib.hid (HA.out.below HL2.out (by omega))
        have HLA := Lib.hid (HL.out.trans (HL2.out.mono (by omega)))
        by_cases hlt : i < n
        · obtain ⟨o, ho⟩ : ∃ o, (offs (K : Int))[i]? = some o := ⟨_, List.getElem?_eq_getElem (by rw [HN.out]; exact hlt)⟩
          have hGo := getGo_drop s (offs (K : Int)) i o a (layZ ((offs (K : Int)).take i) ts (bare K)) ho
          have HLZ := Lib.hid (fun (x : Int) => layZ_take (offs (K : Int)) ts (bare K) i o x ho HTS.out)
          have hiI : (i : Int) < (n : Int) := by omega
          have hi0 : (0 : Int) ≤ (i : Int) := by omega
          rw [HGG.out] at hGo
          clear ho
          have TV := ref02_takeVar (s.extract a s.size) (by rw [ByteArray.size_extract]; unfold maxLen at *; omega)
          rw [rest_extract] at TV
          obtain ⟨T, hT⟩ : ∃ T, Oct.takeVar (rest s a) = T := ⟨_, rfl⟩
          rw [hT] at TV hGo
          have hTl : a + tookLen T ≤ s.size := by
            cases T with
            | short => exact ha
            | form => exact ha
            | num m q =>
              have := (Oct.takeVar_num _ m q hT).1
              rw [rest_length] at this
              show a + q ≤ s.size; omega
          clear hT
          have TVH := Lib.hid TV
          have HGO := Lib.hid hGo
          have haI : (a : Int) ≤ (s.size : Int) := by omega
          have ha0 : (0 : Int) ≤ (a : Int) := by omega
          clear TV hGo
          go_wp2_with fail
          refine (TVH.out _).mono ?_
          rintro e w4 ⟨rfl, hb4⟩
          have HO4 := Lib.hid (HO2.out.below hb4 (Nat.le_refl _))
          have HL4 := Lib.hid (HL2.out.trans (hb4.mono hz3))
          have HA4 := Lib.hid (HA2.out.below hb4 HA2.out.lt)
          have HLA4 := Lib.hid (HLA.out.trans (hb4.mono HLA.out.size))
          have hz4 : w.heap.size + 1 ≤ w4.heap.size := by have := hb4.size; omega
          clear hb4 HO2 HL2 HA2 HLA TVH
          cases T with
          | short =>
            have HG3 : Hid ((GD, GE) = (bare 0, 3)) := Lib.hid (by rw [HG2.out, HGO.out]; rfl)
            clear HGO HG2 HGG
            rw [tookVal]
            go_wp2_with (with_reducible refine ev_store rfl 25 (.tmp 2) (.tmp 40) rfl (w.heap.size) (cellsI (bare 0)) rfl rfl 25 _ HA4.out (by kernel_rfl) rfl (cellsI_one _) ?_; intro w9 hb9 hc9 hz9)
            refine bodyPost_ret (res_ct rfl _ w.heap.size 25 (cellsI (bare 0)) _ rfl hb9 hu rfl (info_event _ rfl)) rfl ⟨by rw [(Prod.mk.inj HG3.out).1, (Prod.mk.inj HG3.out).2]; rfl, ?_⟩
            exact Chg.belowOf (HLA4.out) hc9 (fun k hk => by omega) (by have := (HLA4.out).size; omega)
          | form =>
            have HG3 : Hid ((GD, GE) = (bare 0, 2)) := Lib.hid (by rw [HG2.out, HGO.out]; rfl)
            clear HGO HG2 HGG
            rw [tookVal]
            go_wp2_with (with_reducible refine ev_store rfl 25 (.tmp 2) (.tmp 40) rfl (w.heap.size) (cellsI (bare 0)) rfl rfl 25 _ HA4.out (by kernel_rfl) rfl (cellsI_one _) ?_; intro w9 hb9 hc9 hz9)
            refine bodyPost_ret (res_ct rfl _ w.heap.size 25 (cellsI (bare 0)) _ rfl hb9 hu rfl (info_event _ rfl)) rfl ⟨by rw [(Prod.mk.inj HG3.out).1, (Prod.mk.inj HG3.out).2]; rfl, ?_⟩
            exact Chg.belowOf (HLA4.out) hc9 (fun k hk => by omega) (by have := (HLA4.out).size; omega)
          | num m q =>
            have HGN : Hid (getGo s ((offs (K : Int)).drop (i + 1)) (a + q) (layZ ((offs (K : Int)).take (i + 1)) (ts ++ [(m : Int)]) (bare K)) = G) := Lib.hid (by rw [HLZ.out]; exact HGO.out.symm)
            have hTq : (a : Int) + (q : Int) ≤ (s.size : Int) := by have : a + q ≤ s.size := hTl; omega
            clear HGO HGG HLZ
            rw [tookVal]
            go_wp2_with (with_reducible refine ev_appI rfl (.tmp 42) (.tmp 44) rfl (w.heap.size + 1) W (.slice p i cap) ts rfl (HO4.out.below ((Below.refl w4.heap.size w4).alloc (Nat.le_refl _) _) (Nat.le_refl _)) (HL4.out.alloc hz4 _) (by simp; omega) w4.heap.size m rfl ((Blk.new w4 _ _).cell rfl) (by rw [HTS.out]; omega) ?_; intro v5 w5 ho5 hl5 hg5)
            have HO5 := Lib.hid ho5
            have HL5 := Lib.hid hl5
            clear ho5 hl5 hg5
            go_wp2_with fail
            go_roundg (n - (i + 1))
            case measure => omega
            case rel => exact ⟨i + 1, a + q, ts ++ [(m : Int)], by omega, rfl, by rw [List.length_append, HTS.out]; rfl, hTl, by go_num, HO5, HL5, HGN⟩
        · obtain rfl : i = n := by omega
          have hlen : ts.length = (offs (K : Int)).length := by rw [HTS.out, HN.out]
          obtain ⟨d, hd⟩ : ∃ d, layZ (offs (K : Int)) ts (bare K) = d := ⟨_, rfl⟩
          have hdl : d.length = 8 := by rw [← hd, layZ_length]; rfl
          have hGd : G = (d, a, 0) := by
            rw [← HGG.out, List.drop_eq_nil_of_le (by rw [HN.out]; exact Nat.le_refl _), List.take_of_length_le (by rw [HN.out]; exact Nat.le_refl _), hd]; rfl
          have hG3 : (GD, GE) = if a < s.size then (bare 0, 2) else if checkL d ≠ 0 then (bare 0, checkL d) else (d, 0) := by
            rw [HG2.out, hGd]; rfl
          have HG3 := Lib.hid hG3
          have HDL := Lib.hid hdl
          have HMADE := Lib.hid (fun (wx : World) (hv : RowV 0 wx (.slice p i cap) (ts.map (Value.int .i64))) => show Calls Tryz.prog 80 #[.int .i64 (K : Int), .slice p i cap] wx (fun e w' => e = .returned (.agg (cellsI d)) ∧ Below wx.heap.size wx w') by
            have := ref18_made K ts hlen (.slice p i cap) wx hv
            rw [hd] at this; exact this)
          clear hG3 hGd HGG HG2 hlen hd hdl
          by_cases hya : a < s.size
          · have hyI : (a : Int) < (s.size : Int) := by omega
            have HG4 : Hid ((GD, GE) = (bare 0, 2)) := Lib.hid (by rw [HG3.out, if_pos hya])
            clear hya HG3 HMADE
            go_wp2_with (with_reducible refine ev_store rfl 25 (.tmp 2) (.tmp 53) rfl (w.heap.size) (cellsI (bare 0)) rfl rfl 25 _ HA2.out (by kernel_rfl) rfl (cellsI_one _) ?_; intro w9 hb9 hc9 hz9)
            refine bodyPost_ret (res_ct rfl _ w.heap.size 25 (cellsI (bare 0)) _ rfl hb9 hu rfl (info_event _ rfl)) rfl ⟨by rw [(Prod.mk.inj HG4.out).1, (Prod.mk.inj HG4.out).2]; rfl, ?_⟩
            exact Chg.belowOf (HLA.out) hc9 (fun k hk => by omega) (by have := (HLA.out).size; omega)
          · have hyI : (s.size : Int) ≤ (a : Int) := by omega
            have HG4 : Hid ((GD, GE) = if checkL d ≠ 0 then (bare 0, checkL d) else (d, 0)) := Lib.hid (by rw [HG3.out, if_neg hya])
            clear hya HG3 hlt
            have HCK := Lib.hid (ref18_check d HDL.out)
            obtain ⟨CK, hCK⟩ : ∃ c, checkL d = c := ⟨_, rfl⟩
            rw [hCK] at HG4 HCK
            clear hCK
            go_wp2_with fail
            refine (HMADE.out _ (HO2.out.row.mono (Nat.zero_le _))).mono ?_
            rintro e w4 ⟨rfl, hb4⟩
            have HA4 := Lib.hid (HA2.out.below hb4 HA2.out.lt)
            have HLA4 := Lib.hid (HLA.out.trans (hb4.mono HLA.out.size))
            have hz4 : w.heap.size + 1 ≤ w4.heap.size := by have := hb4.size; omega
            clear hb4 HMADE HO2 HL2 HA2 HLA
            have hinfo := info_event d HDL.out
            go_wp2_with (first
              | (with_reducible refine ev_store rfl 25 (.tmp 10) (.tmp 56) rfl w4.heap.size (cellsI d) rfl rfl 25 _ (Blk.new w4 _ _) hinfo (by simp [cellsI_size, HDL.out]) (cellsI_one _) ?_; intro w5 hb5 hc5 hz5; have HV5 := Lib.hid hb5; have HC5 := Lib.hid hc5; clear hb5 hc5)
              | (with_reducible refine ev_load rfl 25 (.tmp 10) rfl w4.heap.size rfl 25 (cellsI d) _ HV5.out hu rfl hinfo ?_))
            refine (HCK.out _).mono ?_
            rintro e w6 ⟨rfl, hb6⟩
            have hz5' : w4.heap.size < w5.heap.size := HV5.out.lt
            have HC45 : Hid (Chg (fun k => k = w4.heap.size) w4 w5) := Lib.hid (((Chg.refl _ w4).alloc _).trans HC5.out)
            have HA6 := Lib.hid ((HA4.out.chg HC45.out (by omega)).below hb6 (by omega))
            have HV6 := Lib.hid (HV5.out.below hb6 hz5')
            have L5 : Below w.heap.size w w5 := Chg.belowOf HLA4.out HC45.out (fun k hk => by omega) HLA4.out.size
            have HL6 := Lib.hid (L5.trans (hb6.mono L5.size))
            clear hb6 L5 HC5 HC45 HV5 HA4 HLA4 hz5
            by_cases h0 : CK = 0
            · subst h0
              have HG5 : Hid ((GD, GE) = (d, 0)) := Lib.hid (by rw [HG4.out]; simp)
              clear HG4
              go_wp2_with (first
                | (with_reducible refine ev_load rfl 25 (.tmp 10) rfl w4.heap.size rfl 25 (cellsI d) _ HV6.out hu rfl hinfo ?_)
                | (with_reducible refine ev_store rfl 25 (.tmp 2) (.tmp 63) rfl (w.heap.size) (cellsI d) rfl rfl 25 _ HA6.out hinfo (by simp [cellsI_size, HDL.out, bare_length]) (cellsI_one _) ?_; intro w9 hb9 hc9 hz9))
              refine bodyPost_ret (res_ct rfl _ w.heap.size 25 (cellsI d) _ rfl hb9 hu rfl hinfo) rfl ⟨by rw [(Prod.mk.inj HG5.out).1, (Prod.mk.inj HG5.out).2]; rfl, ?_⟩
              exact Chg.belowOf (HL6.out) hc9 (fun k hk => by omega) (by have := (HL6.out).size; omega)
            · have hne0 : (CK == 0) = false := by rw [beq_eq_false_iff_ne]; exact h0
              have HG5 : Hid ((GD, GE) = (bare 0, CK)) := Lib.hid (by rw [HG4.out, if_pos h0])
              clear HG4 h0
              go_wp2_with (with_reducible refine ev_store rfl 25 (.tmp 2) (.tmp 61) rfl (w.heap.size) (cellsI (bare 0)) rfl rfl 25 _ HA6.out (by kernel_rfl) rfl (cellsI_one _) ?_; intro w9 hb9 hc9 hz9)
              refine bodyPost_ret (res_ct rfl _ w.heap.size 25 (cellsI (bare 0)) _ rfl hb9 hu rfl (info_event _ rfl)) rfl ⟨by rw [(Prod.mk.inj HG5.out).1, (Prod.mk.inj HG5.out).2]; rfl, ?_⟩
              exact Chg.belowOf (HL6.out) hc9 (fun k hk => by omega) (by have := (HL6.out).size; omega)
end Go.Proofs.YtokghlmffkboiaaGreat
