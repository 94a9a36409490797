/-
  The message of bytes (reeve's layer 35): the walk.
-/
import Derived.Test.YtcibeiehdjekiaaGreatDoorMsgPut
import Derived.Test.YtcibeiehdjekiaaGreatDoorPutAll
namespace Go.Proofs.YtcibeiehdjekiaaGreatDoor
open Go.RowKit
set_option linter.unusedVariables false
set_option linter.unusedSimpArgs false

/-- What is read of a body: the message, and the error. -/
def getMb (s : ByteArray) : List Int × Int :=
  if s.size = 0 then (bare3 0 0 0, 3) else
  if offsM (Oct.numFrom 0 ((rest s 0).take 1) : Nat) = [] then (bare3 0 0 0, 5) else
  if (getGo s (allM (Oct.numFrom 0 ((rest s 0).take 1) : Nat)) 1 (bare3 (Oct.numFrom 0 ((rest s 0).take 1) : Nat) 0 0)).2.2 ≠ 0 then (bare3 0 0 0, (getGo s (allM (Oct.numFrom 0 ((rest s 0).take 1) : Nat)) 1 (bare3 (Oct.numFrom 0 ((rest s 0).take 1) : Nat) 0 0)).2.2) else
  if (getGo s (allM (Oct.numFrom 0 ((rest s 0).take 1) : Nat)) 1 (bare3 (Oct.numFrom 0 ((rest s 0).take 1) : Nat) 0 0)).2.1 < s.size then (bare3 0 0 0, 2) else
  if checkM (getGo s (allM (Oct.numFrom 0 ((rest s 0).take 1) : Nat)) 1 (bare3 (Oct.numFrom 0 ((rest s 0).take 1) : Nat) 0 0)).1 ≠ 0 then (bare3 0 0 0, 1) else
  ((getGo s (allM (Oct.numFrom 0 ((rest s 0).take 1) : Nat)) 1 (bare3 (Oct.numFrom 0 ((rest s 0).take 1) : Nat) 0 0)).1, 0)
/-- What is read of bytes. -/
def getM (s : ByteArray) : List Int × Int :=
  if (openF s).2.2 ≠ 0 then (bare3 0 0 0, (openF s).2.2) else if (openF s).2.1 < s.size then (bare3 0 0 0, 2) else getMb (openF s).1
/-- The body's size is that of a body. -/
theorem openF_nat (s : ByteArray) : ∃ n : Nat, (openF s).2.1 = n ∧ n ≤ s.size ∧ (openF s).1.size ≤ 200 := by
  rcases openF_cases s with ⟨e, _, _, h⟩ | ⟨h, h1, h2⟩
  · exact ⟨0, by rw [h], Nat.zero_le _, by rw [h]; show (⟨#[]⟩ : ByteArray).size ≤ 200; decide⟩
  · refine ⟨openN s + 7, by rw [h], h2, ?_⟩
    rw [h]
    show (s.extract 3 (openN s + 3)).size ≤ 200
    rw [ByteArray.size_extract]; omega
set_option maxRecDepth 100000 in
set_option maxHeartbeats 6400000 in
theorem msg_get (s : ByteArray) (hs : s.size ≤ maxLen) (w : World) (hL : LaidM w) :
    Calls Tryz.prog 19 #[.string s] w fun e w' => e = .returned (.tuple #[.agg (cellsI (getM s).1), .int .i64 (getM s).2]) ∧ Below w.heap.size w w' := by
  have hu := Tryz.underlying25
  have hs63 : s.size ≤ 9223372036854775807 := by unfold maxLen at hs; omega
  have OP := fun w => frame_open s hs w
  obtain ⟨sz, hsz, hszl, hbl200⟩ := openF_nat s
  have hGM : getM s = if (openF s).2.2 ≠ 0 then (bare3 0 0 0, (openF s).2.2) else if (openF s).2.1 < s.size then (bare3 0 0 0, 2) else getMb (openF s).1 := rfl
  rw [hsz] at OP hGM
  obtain ⟨BD, hBD⟩ : ∃ b, (openF s).1 = b := ⟨_, rfl⟩
  obtain ⟨OE, hOE⟩ : ∃ b, (openF s).2.2 = b := ⟨_, rfl⟩
  rw [hBD] at OP hGM hbl200
  rw [hOE] at OP hGM
  obtain ⟨GD, hGD⟩ : ∃ g, (getM s).1 = g := ⟨_, rfl⟩
  obtain ⟨GE, hGE⟩ : ∃ g, (getM s).2 = g := ⟨_, rfl⟩
  have hG2 : getM s = (GD, GE) := by rw [← hGD, ← hGE]
  rw [hG2] at hGM
  rw [hGD, hGE]
  clear hGD hGE hG2 hBD hOE hsz
  have HGM := Lib.hid hGM
  have OPH := Lib.hid OP
  have HL0 := Lib.hid hL
  clear hGM OP hL
  go_enter Tryz.func19, Tryz.ntmps19
  go_wp2_with fail
  refine (OPH.out _).mono ?_
  rintro e w1 ⟨rfl, hb1⟩
  have A1 := Lib.hid ((Blk.new w (cellsI (bare3 0 0 0)) 25).below hb1 (by simp))
  have L1 := Lib.hid (((Below.refl w.heap.size w).alloc (Nat.le_refl _) (.cells (cellsI (bare3 0 0 0)) 25)).trans (hb1.mono (by simp)))
  clear hb1 OPH
  by_cases hoe : OE = 0
  case neg =>
    have hne : (OE == 0) = false := by rw [beq_eq_false_iff_ne]; exact hoe
    have HF : Hid ((GD, GE) = (bare3 0 0 0, OE)) := Lib.hid (by rw [HGM.out, if_pos hoe])
    clear hoe HGM
    go_wp2_with (with_reducible refine ev_store rfl 25 (.tmp 2) (.tmp 21) rfl w.heap.size (cellsI (bare3 0 0 0)) rfl rfl 25 _ A1.out (by kernel_rfl) rfl (cellsI_one _) ?_; intro w9 hb9 hc9 hz9)
    refine bodyPost_ret (res_ct rfl _ w.heap.size 25 (cellsI (bare3 0 0 0)) _ rfl hb9 hu rfl (info_msg _ rfl)) rfl ⟨by rw [(Prod.mk.inj HF.out).1, (Prod.mk.inj HF.out).2]; rfl, ?_⟩
    exact Chg.belowOf L1.out hc9 (fun k hk => by omega) L1.out.size
  subst hoe
  by_cases hsl : sz < s.size
  · have hslI : (sz : Int) < (s.size : Int) := by omega
    have HF : Hid ((GD, GE) = (bare3 0 0 0, 2)) := Lib.hid (by rw [HGM.out, if_neg (by simp), if_pos hsl])
    clear hsl HGM
    go_wp2_with (with_reducible refine ev_store rfl 25 (.tmp 2) (.tmp 28) rfl w.heap.size (cellsI (bare3 0 0 0)) rfl rfl 25 _ A1.out (by kernel_rfl) rfl (cellsI_one _) ?_; intro w9 hb9 hc9 hz9)
    refine bodyPost_ret (res_ct rfl _ w.heap.size 25 (cellsI (bare3 0 0 0)) _ rfl hb9 hu rfl (info_msg _ rfl)) rfl ⟨by rw [(Prod.mk.inj HF.out).1, (Prod.mk.inj HF.out).2]; rfl, ?_⟩
    exact Chg.belowOf L1.out hc9 (fun k hk => by omega) L1.out.size
  have hslI : (s.size : Int) ≤ (sz : Int) := by omega
  have hsb : BD.size ≤ maxLen := by unfold maxLen; omega
  obtain ⟨K, hK⟩ : ∃ K : Nat, Oct.numFrom 0 ((rest BD 0).take 1) = K := ⟨_, rfl⟩
  have hKb : K < 256 := by
    rw [← hK]
    have := Oct.numFrom_lt 0 ((rest BD 0).take 1)
    have hl : ((rest BD 0).take 1).length ≤ 1 := by rw [List.length_take]; omega
    have : 256 ^ ((rest BD 0).take 1).length ≤ 256 ^ 1 := Nat.pow_le_pow_right (by decide) hl
    omega
  have hG : (GD, GE) = if BD.size = 0 then (bare3 0 0 0, 3) else if offsM (K : Int) = [] then (bare3 0 0 0, 5) else if (getGo BD (allM (K : Int)) 1 (bare3 (K : Int) 0 0)).2.2 ≠ 0 then (bare3 0 0 0, (getGo BD (allM (K : Int)) 1 (bare3 (K : Int) 0 0)).2.2) else
      if (getGo BD (allM (K : Int)) 1 (bare3 (K : Int) 0 0)).2.1 < BD.size then (bare3 0 0 0, 2) else if checkM (getGo BD (allM (K : Int)) 1 (bare3 (K : Int) 0 0)).1 ≠ 0 then (bare3 0 0 0, 1) else ((getGo BD (allM (K : Int)) 1 (bare3 (K : Int) 0 0)).1, 0) := by
    rw [HGM.out, if_neg (by simp), if_neg (by omega)]; unfold getMb; rw [hK]
  have HG := Lib.hid hG
  have HK := Lib.hid hK
  clear hK hG HGM hsl
  have hsz1 : w.heap.size < w1.heap.size := A1.out.lt
  have hb63 : BD.size ≤ 9223372036854775807 := by omega
  go_wp2_with fail
  refine (octet_new BD _).mono ?_
  rintro e w2 ⟨rfl, hc1, hb2, hz1⟩
  have A2 := Lib.hid (A1.out.below hb2 hsz1)
  have L2 := Lib.hid (L1.out.trans (hb2.mono L1.out.size))
  obtain ⟨c, hcn⟩ : ∃ c, w1.heap.size = c := ⟨_, rfl⟩
  rw [hcn] at hc1 hz1 hsz1 ⊢
  have C1 := Lib.hid hc1
  clear hb2 hc1 A1 L1 hcn
  by_cases hz : BD.size = 0
  · have HG2 : Hid ((GD, GE) = (bare3 0 0 0, 3)) := Lib.hid (by rw [HG.out, if_pos hz])
    go_wp2_with fail
    refine (cur_fixed_short c BD 0 1 hsb (by omega) (by decide) (by decide) (by omega) w2 C1.out).mono ?_
    rintro e w3 ⟨rfl, rfl⟩
    have A3 := Lib.hid ((A2.out.alloc (.cells #[.int .i64 0, .int .i64 0, .int .i64 0, .int .i64 0, .int .i64 0, .int .i64 0, .int .i64 0, .int .i64 0, .int .i64 0, .int .i64 0, .int .i64 0, .int .i64 0] 25)).drew)
    have L3 := Lib.hid ((L2.out.alloc L2.out.size (.cells #[.int .i64 0, .int .i64 0, .int .i64 0, .int .i64 0, .int .i64 0, .int .i64 0, .int .i64 0, .int .i64 0, .int .i64 0, .int .i64 0, .int .i64 0, .int .i64 0] 25)).drew)
    clear hz HG HK C1 A2 L2
    go_wp2_with (with_reducible refine ev_store rfl 25 (.tmp 2) (.tmp 42) rfl w.heap.size (cellsI (bare3 0 0 0)) rfl rfl 25 _ A3.out (by kernel_rfl) rfl (cellsI_one _) ?_; intro w9 hb9 hc9 hz9)
    refine bodyPost_ret (res_ct rfl _ w.heap.size 25 (cellsI (bare3 0 0 0)) _ rfl hb9 hu rfl (info_msg _ rfl)) rfl ⟨by rw [(Prod.mk.inj HG2.out).1, (Prod.mk.inj HG2.out).2]; rfl, ?_⟩
    exact Chg.belowOf L3.out hc9 (fun k hk => by omega) L3.out.size
  · have hz' : 0 < BD.size := by omega
    have hG1 : (GD, GE) = if offsM (K : Int) = [] then (bare3 0 0 0, 5) else if (getGo BD (allM (K : Int)) 1 (bare3 (K : Int) 0 0)).2.2 ≠ 0 then (bare3 0 0 0, (getGo BD (allM (K : Int)) 1 (bare3 (K : Int) 0 0)).2.2) else
      if (getGo BD (allM (K : Int)) 1 (bare3 (K : Int) 0 0)).2.1 < BD.size then (bare3 0 0 0, 2) else if checkM (getGo BD (allM (K : Int)) 1 (bare3 (K : Int) 0 0)).1 ≠ 0 then (bare3 0 0 0, 1) else ((getGo BD (allM (K : Int)) 1 (bare3 (K : Int) 0 0)).1, 0) := by rw [HG.out, if_neg hz]
    have HG1 := Lib.hid hG1
    clear hG1 HG hz
    go_wp2_with fail
    refine (cur_fixed c BD 0 1 hsb (by omega) (by decide) (by decide) w2 C1.out).mono ?_
    rintro e w3 ⟨rfl, hc2, hg2⟩
    rw [HK.out]
    have C3 := Lib.hid hc2
    have A3 := Lib.hid (A2.out.gby hg2 (by omega))
    have L3 := Lib.hid (below_gby L2.out hg2 (by omega) L2.out.size)
    have hz3 : c < w3.heap.size := by have := hg2.size; omega
    have hcv : IntKind.i64.wrap (K : Int) = (K : Int) := by rw [IntKind.wrap_i64]; omega
    clear hc2 hg2 hz1 C1 A2 L2 HK
    go_wp2_with fail
    refine (msg_named w3.heap.size K _ ((Blk.new w3 (cellsI (bare3 K 0 0)) 25).cell rfl)).mono ?_
    rintro e w4 ⟨v1, rfl, hr, hb4⟩
    obtain ⟨V, hV⟩ : ∃ V, w3.heap.size = V := ⟨_, rfl⟩
    have V4 := Lib.hid (show Blk w4 V (cellsI (bare3 K 0 0)) 25 by rw [← hV]; exact (Blk.new w3 (cellsI (bare3 K 0 0)) 25).below hb4 (by simp))
    have hz4 : V < w4.heap.size := V4.out.lt
    have hb4 : Below V w3 w4 := by rw [← hV]; exact ((Below.refl w3.heap.size w3).alloc (Nat.le_refl _) _).trans (hb4.mono (by simp))
    have C4 := Lib.hid (C3.out.below hb4 (by omega))
    have A4 := Lib.hid (A3.out.below hb4 (by omega))
    have L4 := Lib.hid (L3.out.trans (hb4.mono (by omega)))
    rw [hV] at hz3 ⊢
    obtain ⟨p1, cp1, rfl⟩ := hr.len
    rw [ptrs_length]
    clear hb4 hV C3 A3 L3 hr
    by_cases he : offsM (K : Int) = []
    · have h0 : (offsM (K : Int)).length = 0 := by rw [he]; rfl
      rw [h0]
      have HG2 : Hid ((GD, GE) = (bare3 0 0 0, 5)) := Lib.hid (by rw [HG1.out, if_pos he])
      clear HG1 he h0 C4 V4
      go_wp2_with (with_reducible refine ev_store rfl 25 (.tmp 2) (.tmp 48) rfl w.heap.size (cellsI (bare3 0 0 0)) rfl rfl 25 _ A4.out (by kernel_rfl) rfl (cellsI_one _) ?_; intro w9 hb9 hc9 hz9)
      refine bodyPost_ret (res_ct rfl _ w.heap.size 25 (cellsI (bare3 0 0 0)) _ rfl hb9 hu rfl (info_msg _ rfl)) rfl ⟨by rw [(Prod.mk.inj HG2.out).1, (Prod.mk.inj HG2.out).2]; rfl, ?_⟩
      exact Chg.belowOf L4.out hc9 (fun k hk => by omega) L4.out.size
    · have hl0 : (((offsM (K : Int)).length : Int) == 0) = false := by
        rw [beq_eq_false_iff_ne]
        intro e
        exact he (List.eq_nil_of_length_eq_zero (by omega))
      generalize (offsM (K : Int)).length = nn at hl0 ⊢
      have hG2 : (GD, GE) = if (getGo BD (allM (K : Int)) 1 (bare3 (K : Int) 0 0)).2.2 ≠ 0 then (bare3 0 0 0, (getGo BD (allM (K : Int)) 1 (bare3 (K : Int) 0 0)).2.2) else
        if (getGo BD (allM (K : Int)) 1 (bare3 (K : Int) 0 0)).2.1 < BD.size then (bare3 0 0 0, 2) else if checkM (getGo BD (allM (K : Int)) 1 (bare3 (K : Int) 0 0)).1 ≠ 0 then (bare3 0 0 0, 1) else ((getGo BD (allM (K : Int)) 1 (bare3 (K : Int) 0 0)).1, 0) := by rw [HG1.out, if_neg he]
      obtain ⟨G, hGG⟩ : ∃ G, getGo BD (allM (K : Int)) 1 (bare3 (K : Int) 0 0) = G := ⟨_, rfl⟩
      rw [hGG] at hG2
      have HG2 := Lib.hid hG2
      have HGG := Lib.hid hGG
      clear hG2 hGG HG1
      have hvc := V4.out.cell (i := 0) rfl
      go_wp2_with fail
      refine (msg_all V K he w4 hvc).mono ?_
      rintro e w5 ⟨v2, rfl, hr5, hb5⟩
      have V5 := Lib.hid (V4.out.below hb5 hz4)
      have C5 := Lib.hid (C4.out.below hb5 (by omega))
      have A5 := Lib.hid (A4.out.below hb5 A4.out.lt)
      have L5 := Lib.hid (L4.out.trans (hb5.mono L4.out.size))
      have hlen : (allM (K : Int)).length ≠ 0 := by
        intro e; unfold allM at e; simp at e
      obtain ⟨n, hn⟩ : ∃ n, (allM (K : Int)).length = n := ⟨_, rfl⟩
      have hn7 := allM_length (K : Int)
      rw [hn] at hn7
      rcases hr5 with ⟨_, _, _, hnil⟩ | ⟨r, off, cap, rfl, hr3, hr4, hrc⟩
      · exfalso; apply hlen
        have := congrArg List.length hnil
        rwa [ptrs_length] at this
      rw [ptrs_length, hn]
      have HRC : Hid (∀ j o, (allM (K : Int))[j]? = some o → w5.cell? ⟨r, off + j, none⟩ = some (.pointer (some ⟨V, o, none⟩))) := Lib.hid (fun j o hj => hrc j _ (by simp [ptrs, hj]))
      have HN := Lib.hid hn
      have hrV2 : V < r := by omega
      clear hb5 hvc hn hlen hrc V4 C4 A4 L4 he
      go_wp2_with fail
      go_loopg [51] n (fun gg s51 wr => ∃ (i a : Nat) (d : List Int), i ≤ n ∧ gg = n - i ∧ s51 = .int .i64 i ∧ a ≤ BD.size ∧ Hid (d.length = 12) ∧ Hid (Cur wr c BD a) ∧ Hid (Blk wr V (cellsI d) 25) ∧ Hid (Blk wr w.heap.size (cellsI (bare3 0 0 0)) 25) ∧ Hid (∀ j o, (allM (K : Int))[j]? = some o → wr.cell? ⟨r, off + j, none⟩ = some (.pointer (some ⟨V, o, none⟩))) ∧ Hid (Below w.heap.size w wr) ∧ r < wr.heap.size ∧ Hid (getGo BD ((allM (K : Int)).drop i) a d = G))
      case atStart => exact ⟨0, 1, bare3 K 0 0, by omega, rfl, rfl, by omega, Lib.hid rfl, C5, V5, A5, HRC, L5, hr4, HGG⟩
      case round =>
        clear C5 V5 A5 HRC L5 hr4 HGG
        obtain ⟨i, a, d, hi', hg, rfl, ha, HD, HC, HV, HA, HRC, HLb, hrr, HGG⟩ := hrel
        have hg := hg.symm
        subst hg
        by_cases hlt : i < n
        · obtain ⟨o, ho⟩ : ∃ o, (allM (K : Int))[i]? = some o := ⟨_, List.getElem?_eq_getElem (by rw [HN.out]; exact hlt)⟩
          have hol := allM_lt _ o (List.mem_of_getElem? ho)
          have k1 := HRC.out i o ho
          have hGo := getGo_drop BD (allM (K : Int)) i o a d ho
          have hiI : (i : Int) < (n : Int) := by omega
          have hi0 : (0 : Int) ≤ (i : Int) := by omega
          rw [HGG.out] at hGo
          clear ho
          have CV := cur_var c BD a hsb ha wr HC.out
          obtain ⟨T, hT⟩ : ∃ T, Oct.takeVar (rest BD a) = T := ⟨_, rfl⟩
          rw [hT] at CV hGo
          have hTl : a + tookLen T ≤ BD.size := by
            cases T with
            | short => exact ha
            | form => exact ha
            | num m q =>
              have := (Oct.takeVar_num _ m q hT).1
              rw [rest_length] at this
              show a + q ≤ BD.size; omega
          clear hT
          have CVH := Lib.hid CV
          have HGO := Lib.hid hGo
          clear CV hGo
          go_wp2_with fail
          refine CVH.out.mono ?_
          rintro e w6 ⟨rfl, hc6, hg6, hz6⟩
          have k1' := (hg6.block r hrr (by simp; omega))
          have HV6 := Lib.hid (HV.out.gby hg6 (by omega))
          have HA6 := Lib.hid (HA.out.gby hg6 (by omega))
          have HC6 := Lib.hid hc6
          have HL6 := Lib.hid (below_gby HLb.out hg6 (by omega) HLb.out.size)
          have HRC6 : Hid (∀ j o, (allM (K : Int))[j]? = some o → w6.cell? ⟨r, off + j, none⟩ = some (.pointer (some ⟨V, o, none⟩))) := Lib.hid (fun j o hj => (World.cell?_of_block k1').trans (HRC.out j o hj))
          have v0 := HV6.out.cell (cellsI_at (l := d) (i := o) (by rw [HD.out]; omega))
          have v1 := HV6.out.free o
          have hrr6 : r < w6.heap.size := by omega
          clear hc6 hg6 hz6 k1' HV HA HC HLb HRC CVH
          cases T with
          | short =>
            have HG3 : Hid ((GD, GE) = (bare3 0 0 0, 3)) := Lib.hid (by rw [HG2.out, HGO.out]; rfl)
            clear HGO HG2 HGG
            have A7 := Lib.hid (HA6.out.far (a := ⟨V, o, none⟩) (by show ¬ V = _; omega) (.int .i64 0))
            have L7 := Lib.hid (HL6.out.setCell (p := ⟨V, o, none⟩) (by show _ ≤ V; omega) (.int .i64 0))
            rw [varVal]
            go_wp2_with (with_reducible refine ev_store rfl 25 (.tmp 2) (.tmp 64) rfl w.heap.size (cellsI (bare3 0 0 0)) rfl rfl 25 _ A7.out (by kernel_rfl) rfl (cellsI_one _) ?_; intro w9 hb9 hc9 hz9)
            refine bodyPost_ret (res_ct rfl _ w.heap.size 25 (cellsI (bare3 0 0 0)) _ rfl hb9 hu rfl (info_msg _ rfl)) rfl ⟨by rw [(Prod.mk.inj HG3.out).1, (Prod.mk.inj HG3.out).2]; rfl, ?_⟩
            exact Chg.belowOf L7.out hc9 (fun k hk => by omega) L7.out.size
          | form =>
            have HG3 : Hid ((GD, GE) = (bare3 0 0 0, 2)) := Lib.hid (by rw [HG2.out, HGO.out]; rfl)
            clear HGO HG2 HGG
            have A7 := Lib.hid (HA6.out.far (a := ⟨V, o, none⟩) (by show ¬ V = _; omega) (.int .i64 0))
            have L7 := Lib.hid (HL6.out.setCell (p := ⟨V, o, none⟩) (by show _ ≤ V; omega) (.int .i64 0))
            rw [varVal]
            go_wp2_with (with_reducible refine ev_store rfl 25 (.tmp 2) (.tmp 64) rfl w.heap.size (cellsI (bare3 0 0 0)) rfl rfl 25 _ A7.out (by kernel_rfl) rfl (cellsI_one _) ?_; intro w9 hb9 hc9 hz9)
            refine bodyPost_ret (res_ct rfl _ w.heap.size 25 (cellsI (bare3 0 0 0)) _ rfl hb9 hu rfl (info_msg _ rfl)) rfl ⟨by rw [(Prod.mk.inj HG3.out).1, (Prod.mk.inj HG3.out).2]; rfl, ?_⟩
            exact Chg.belowOf L7.out hc9 (fun k hk => by omega) L7.out.size
          | num m q =>
            have HGN : Hid (getGo BD ((allM (K : Int)).drop (i + 1)) (a + q) (d.set o m) = G) := Lib.hid HGO.out.symm
            clear HGO HGG
            rw [varVal]
            go_wp2_with fail
            go_roundg (n - (i + 1))
            case measure => omega
            case rel =>
              refine ⟨i + 1, a + q, d.set o m, by omega, rfl, by go_num, hTl, Lib.hid (by rw [List.length_set]; exact HD.out), Lib.hid (HC6.out.far (a := ⟨V, o, none⟩) (by show ¬ V = _; omega) _), Lib.hid ?_, Lib.hid (HA6.out.far (a := ⟨V, o, none⟩) (by show ¬ V = _; omega) _), Lib.hid (fun j o' hj => ?_), Lib.hid (HL6.out.setCell (p := ⟨V, o, none⟩) (by show _ ≤ V; omega) _), by simpa using hrr6, HGN⟩
              · rw [← cellsI_set]; exact HV6.out.set o _
              · exact (World.cell?_setCell_other _ ⟨V, o, none⟩ ⟨r, off + j, none⟩ _ (by intro h; injection h with h1; omega)).trans (HRC6.out j o' hj)
        · obtain rfl : i = n := by omega
          have hGd : G = (d, a, 0) := by
            rw [← HGG.out, List.drop_eq_nil_of_le (by rw [HN.out]; omega)]; rfl
          have hG3 : (GD, GE) = if a < BD.size then (bare3 0 0 0, 2) else if checkM d ≠ 0 then (bare3 0 0 0, 1) else (d, 0) := by
            rw [HG2.out, hGd]; rfl
          have HG3 := Lib.hid hG3
          clear hG3 hGd HGG HG2 HRC
          have CL := cur_left c BD a hsb ha wr HC.out
          obtain ⟨y, hy⟩ : ∃ y, BD.size - a = y := ⟨_, rfl⟩
          rw [hy] at CL
          have CLH := Lib.hid CL
          clear CL
          go_wp2_with fail
          refine CLH.out.mono ?_
          rintro e w6 ⟨rfl, rfl⟩
          by_cases hya : a < BD.size
          · have hy0 : (0 : Int) < (y : Int) := by omega
            have HG4 : Hid ((GD, GE) = (bare3 0 0 0, 2)) := Lib.hid (by rw [HG3.out, if_pos hya])
            clear hy hya HG3
            go_wp2_with (with_reducible refine ev_store rfl 25 (.tmp 2) (.tmp 70) rfl w.heap.size (cellsI (bare3 0 0 0)) rfl rfl 25 _ HA.out.drew (by kernel_rfl) rfl (cellsI_one _) ?_; intro w9 hb9 hc9 hz9)
            refine bodyPost_ret (res_ct rfl _ w.heap.size 25 (cellsI (bare3 0 0 0)) _ rfl hb9 hu rfl (info_msg _ rfl)) rfl ⟨by rw [(Prod.mk.inj HG4.out).1, (Prod.mk.inj HG4.out).2]; rfl, ?_⟩
            exact Chg.belowOf HLb.out.drew hc9 (fun k hk => by omega) HLb.out.size
          · obtain rfl : y = 0 := by omega
            have HG4 : Hid ((GD, GE) = if checkM d ≠ 0 then (bare3 0 0 0, 1) else (d, 0)) := Lib.hid (by rw [HG3.out, if_neg hya])
            clear hy hya HG3 hg hlt
            have HCK := Lib.hid (fun w h => msg_check d HD.out w h)
            obtain ⟨CK, hCK⟩ : ∃ c, checkM d = c := ⟨_, rfl⟩
            rw [hCK] at HG4 HCK
            clear hCK
            go_wp2_with (with_reducible refine ev_load rfl 25 (.tmp 9) rfl V rfl 25 (cellsI d) _ HV.out.drew hu rfl (info_msg d HD.out) ?_)
            refine (HCK.out _ (HL0.out.below HLb.out.drew)).mono ?_
            rintro e w7 ⟨rfl, hb7⟩
            have A7 := Lib.hid (Blk.below (w := wr) HA.out (by exact ⟨hb7.os, hb7.tape, hb7.output, hb7.size, hb7.block⟩ : Below wr.heap.size wr w7) HA.out.lt)
            have V7 := Lib.hid (Blk.below (w := wr) HV.out (by exact ⟨hb7.os, hb7.tape, hb7.output, hb7.size, hb7.block⟩ : Below wr.heap.size wr w7) HV.out.lt)
            have L7 := Lib.hid (HLb.out.trans (Below.mono (by exact ⟨hb7.os, hb7.tape, hb7.output, hb7.size, hb7.block⟩ : Below wr.heap.size wr w7) HLb.out.size))
            clear hb7
            by_cases h0 : CK = 0
            · subst h0
              have HG5 : Hid ((GD, GE) = (d, 0)) := Lib.hid (by rw [HG4.out]; simp)
              clear HG4
              go_wp2_with (first
                | (with_reducible refine ev_load rfl 25 (.tmp 9) rfl V rfl 25 (cellsI d) _ V7.out hu rfl (info_msg d HD.out) ?_)
                | (with_reducible refine ev_store rfl 25 (.tmp 2) (.tmp 75) rfl w.heap.size (cellsI d) rfl rfl 25 _ A7.out (info_msg d HD.out) (by simp [cellsI_size, HD.out, bare3_length]) (cellsI_one _) ?_; intro w9 hb9 hc9 hz9))
              refine bodyPost_ret (res_ct rfl _ w.heap.size 25 (cellsI d) _ rfl hb9 hu rfl (info_msg d HD.out)) rfl ⟨by rw [(Prod.mk.inj HG5.out).1, (Prod.mk.inj HG5.out).2]; rfl, ?_⟩
              exact Chg.belowOf L7.out hc9 (fun k hk => by omega) L7.out.size
            · have hne : (CK == 0) = false := by rw [beq_eq_false_iff_ne]; exact h0
              have HG5 : Hid ((GD, GE) = (bare3 0 0 0, 1)) := Lib.hid (by rw [HG4.out, if_pos h0])
              clear HG4 h0
              go_wp2_with (with_reducible refine ev_store rfl 25 (.tmp 2) (.tmp 74) rfl w.heap.size (cellsI (bare3 0 0 0)) rfl rfl 25 _ A7.out (by kernel_rfl) rfl (cellsI_one _) ?_; intro w9 hb9 hc9 hz9)
              refine bodyPost_ret (res_ct rfl _ w.heap.size 25 (cellsI (bare3 0 0 0)) _ rfl hb9 hu rfl (info_msg _ rfl)) rfl ⟨by rw [(Prod.mk.inj HG5.out).1, (Prod.mk.inj HG5.out).2]; rfl, ?_⟩
              exact Chg.belowOf L7.out hc9 (fun k hk => by omega) L7.out.size
end Go.Proofs.YtcibeiehdjekiaaGreatDoor
