/-
  The event of bytes (reeve's layer 18): the walk.
-/
import Derived.Test.YtokghlmffkboiaaGreatEventPut
namespace Go.Proofs.YtokghlmffkboiaaGreat
open Go.RowKit
set_option linter.unusedVariables false
set_option linter.unusedSimpArgs false

/-- Numbers taken one by one, and laid at places; where that ended, and the error. -/
def getGo (s : ByteArray) : List Nat → Nat → List Int → List Int × Nat × Int
  | [], a, d => (d, a, 0)
  | o :: r, a, d =>
    match Oct.takeVar (rest s a) with
    | .short => (d, a, 3)
    | .form => (d, a, 2)
    | .num n k => getGo s r (a + k) (d.set o n)
/-- What is read of bytes: the event, and the error. -/
def getL (s : ByteArray) : List Int × Int :=
  if s.size = 0 then (bare 0, 3) else
  if offs (Oct.numFrom 0 ((rest s 0).take 1) : Nat) = [] then (bare 0, 5) else
  if (getGo s (offs (Oct.numFrom 0 ((rest s 0).take 1) : Nat)) 1 (bare (Oct.numFrom 0 ((rest s 0).take 1) : Nat))).2.2 ≠ 0 then (bare 0, (getGo s (offs (Oct.numFrom 0 ((rest s 0).take 1) : Nat)) 1 (bare (Oct.numFrom 0 ((rest s 0).take 1) : Nat))).2.2) else
  if (getGo s (offs (Oct.numFrom 0 ((rest s 0).take 1) : Nat)) 1 (bare (Oct.numFrom 0 ((rest s 0).take 1) : Nat))).2.1 < s.size then (bare 0, 2) else
  if checkL (getGo s (offs (Oct.numFrom 0 ((rest s 0).take 1) : Nat)) 1 (bare (Oct.numFrom 0 ((rest s 0).take 1) : Nat))).1 ≠ 0 then (bare 0, checkL (getGo s (offs (Oct.numFrom 0 ((rest s 0).take 1) : Nat)) 1 (bare (Oct.numFrom 0 ((rest s 0).take 1) : Nat))).1) else
  ((getGo s (offs (Oct.numFrom 0 ((rest s 0).take 1) : Nat)) 1 (bare (Oct.numFrom 0 ((rest s 0).take 1) : Nat))).1, 0)
theorem getGo_drop (s : ByteArray) (os : List Nat) (i o a : Nat) (d : List Int) (h : os[i]? = some o) :
    getGo s (os.drop i) a d = match Oct.takeVar (rest s a) with | .short => (d, a, 3) | .form => (d, a, 2) | .num n k => getGo s (os.drop (i + 1)) (a + k) (d.set o n) := by
  obtain ⟨hi, e⟩ := List.getElem?_eq_some_iff.1 h
  rw [List.drop_eq_getElem_cons hi, e, getGo]
set_option maxRecDepth 100000 in
set_option maxHeartbeats 3200000 in
theorem event_get (s : ByteArray) (hs : s.size ≤ maxLen) (w : World) :
    Calls Tryz.prog 77 #[.string s] w fun e w' => e = .returned (.tuple #[.agg (cellsI (getL s).1), .int .i64 (getL s).2]) ∧ Below w.heap.size w w' := by
  have hu := Tryz.underlying25
  have hs63 : s.size ≤ 9223372036854775807 := by unfold maxLen at hs; omega
  obtain ⟨K, hK⟩ : ∃ K : Nat, Oct.numFrom 0 ((rest s 0).take 1) = K := ⟨_, rfl⟩
  have hKb : K < 256 := by
    rw [← hK]
    have := Oct.numFrom_lt 0 ((rest s 0).take 1)
    have hl : ((rest s 0).take 1).length ≤ 1 := by rw [List.length_take]; omega
    have : 256 ^ ((rest s 0).take 1).length ≤ 256 ^ 1 := Nat.pow_le_pow_right (by decide) hl
    omega
  have hG : getL s = if s.size = 0 then (bare 0, 3) else if offs (K : Int) = [] then (bare 0, 5) else if (getGo s (offs (K : Int)) 1 (bare (K : Int))).2.2 ≠ 0 then (bare 0, (getGo s (offs (K : Int)) 1 (bare (K : Int))).2.2) else
      if (getGo s (offs (K : Int)) 1 (bare (K : Int))).2.1 < s.size then (bare 0, 2) else if checkL (getGo s (offs (K : Int)) 1 (bare (K : Int))).1 ≠ 0 then (bare 0, checkL (getGo s (offs (K : Int)) 1 (bare (K : Int))).1) else ((getGo s (offs (K : Int)) 1 (bare (K : Int))).1, 0) := by
    unfold getL; rw [hK]
  obtain ⟨GD, hGD⟩ : ∃ g, (getL s).1 = g := ⟨_, rfl⟩
  obtain ⟨GE, hGE⟩ : ∃ g, (getL s).2 = g := ⟨_, rfl⟩
  have hG2 : getL s = (GD, GE) := by rw [← hGD, ← hGE]
  rw [hG2] at hG
  rw [hGD, hGE]
  clear hGD hGE hG2
  have HG := Lib.hid hG
  have HK := Lib.hid hK
  clear hK hG
  go_enter Tryz.func77, Tryz.ntmps77
  go_wp2_with fail
  refine (octet_new s _).mono ?_
  rintro e w1 ⟨rfl, hc1, hb1, hz1⟩
  have A1 : Blk w1 w.heap.size (cellsI (bare 0)) 25 := (Blk.new w _ _).below hb1 (by simp)
  have L1 : Below w.heap.size w w1 := ((Below.refl w.heap.size w).alloc (Nat.le_refl _) _).trans (hb1.mono (by simp))
  have hce : ∃ c, (w.alloc (.cells (cellsI (bare 0)) 25)).heap.size = c ∧ c = w.heap.size + 1 := ⟨_, rfl, by simp⟩
  obtain ⟨c, hce, hcn⟩ := hce
  have hce' : (w.alloc (.cells #[Value.int IntKind.i64 0, Value.int IntKind.i64 0, Value.int IntKind.i64 0, Value.int IntKind.i64 0, Value.int IntKind.i64 0, Value.int IntKind.i64 0, Value.int IntKind.i64 0, Value.int IntKind.i64 0] 25)).heap.size = c := hce
  rw [hce'] at hc1 hz1 ⊢
  clear hce hce'
  subst hcn
  have C1 := Lib.hid hc1
  have A1H := Lib.hid A1
  have L1H := Lib.hid L1
  clear hb1 hc1 A1 L1
  by_cases hz : s.size = 0
  · have HG2 : Hid ((GD, GE) = (bare 0, 3)) := Lib.hid (by rw [HG.out, if_pos hz])
    go_wp2_with fail
    refine (cur_fixed_short (w.heap.size + 1) s 0 1 hs (by omega) (by decide) (by decide) (by omega) w1 C1.out).mono ?_
    rintro e w2 ⟨rfl, rfl⟩
    clear hz
    go_wp2_with fail
    refine (event_named (w.heap.size + 2) 0 (w1.alloc (.cells (cellsI (bare 0)) 25)).drew (by exact (blk_at w1 (cellsI (bare 0)) 25 (w.heap.size + 2) hz1).cell rfl)).mono ?_
    rintro e w3 ⟨v, rfl, hr, hb3⟩
    obtain ⟨p, cp, rfl⟩ := hr.len
    have hl0 : (ptrs (w.heap.size + 2) (offs 0)).length = 0 := rfl
    rw [hl0]
    have hb3 : Below w1.heap.size w1 w3 := (((Below.refl w1.heap.size w1).alloc (Nat.le_refl _) (.cells (cellsI (bare 0)) 25))).trans (Below.mono ⟨hb3.os, hb3.tape, hb3.output, hb3.size, hb3.block⟩ (by simp))
    have A3 := Lib.hid (A1H.out.below hb3 A1H.out.lt)
    have L3 := Lib.hid (L1H.out.trans (hb3.mono L1H.out.size))
    clear hr hb3 hl0 HG HK C1 A1H L1H
    go_wp2_with (with_reducible refine ev_store rfl 25 (.tmp 2) (.tmp 26) rfl w.heap.size (cellsI (bare 0)) rfl rfl 25 _ A3.out (by kernel_rfl) rfl (cellsI_one _) ?_; intro w9 hb9 hc9 hz9)
    refine bodyPost_ret (res_ct rfl _ w.heap.size 25 (cellsI (bare 0)) _ rfl hb9 hu rfl (info_event _ rfl)) rfl ⟨by rw [(Prod.mk.inj HG2.out).1, (Prod.mk.inj HG2.out).2]; rfl, ?_⟩
    exact Chg.belowOf L3.out hc9 (fun k hk => by omega) L3.out.size
  · have hz' : 0 < s.size := by omega
    have hG1 : (GD, GE) = if offs (K : Int) = [] then (bare 0, 5) else if (getGo s (offs (K : Int)) 1 (bare (K : Int))).2.2 ≠ 0 then (bare 0, (getGo s (offs (K : Int)) 1 (bare (K : Int))).2.2) else
      if (getGo s (offs (K : Int)) 1 (bare (K : Int))).2.1 < s.size then (bare 0, 2) else if checkL (getGo s (offs (K : Int)) 1 (bare (K : Int))).1 ≠ 0 then (bare 0, checkL (getGo s (offs (K : Int)) 1 (bare (K : Int))).1) else ((getGo s (offs (K : Int)) 1 (bare (K : Int))).1, 0) := by rw [HG.out, if_neg hz]
    have HG1 := Lib.hid hG1
    clear hG1 HG hz
    go_wp2_with fail
    refine (cur_fixed (w.heap.size + 1) s 0 1 hs (by omega) (by decide) (by decide) w1 C1.out).mono ?_
    rintro e w2 ⟨rfl, hc2, hg2⟩
    rw [HK.out]
    have C2 := Lib.hid hc2
    have A2 := Lib.hid (A1H.out.gby hg2 (by omega))
    have L2 := Lib.hid (below_gby L1H.out hg2 (by omega) L1H.out.size)
    have hz2 : w.heap.size + 2 ≤ w2.heap.size := by have := hg2.size; omega
    have hcv : IntKind.i64.wrap (K : Int) = (K : Int) := by rw [IntKind.wrap_i64]; omega
    clear hc2 hg2 hz1 C1 A1H L1H HK
    go_wp2_with fail
    refine (event_named w2.heap.size K _ ((Blk.new w2 (cellsI (bare K)) 25).cell rfl)).mono ?_
    rintro e w3 ⟨v1, rfl, hr, hb3⟩
    obtain ⟨V, hV⟩ : ∃ V, w2.heap.size = V := ⟨_, rfl⟩
    have V3 : Blk w3 V (cellsI (bare K)) 25 := by rw [← hV]; exact (Blk.new w2 (cellsI (bare K)) 25).below hb3 (by simp)
    have hz3 : V < w3.heap.size := V3.lt
    have hb3 : Below V w2 w3 := by rw [← hV]; exact ((Below.refl w2.heap.size w2).alloc (Nat.le_refl _) _).trans (hb3.mono (by simp))
    have C3 := Lib.hid (C2.out.below hb3 (by omega))
    have A3 := Lib.hid (A2.out.below hb3 (by omega))
    have L3 := Lib.hid (L2.out.trans (hb3.mono (by omega)))
    have hrV : RowV (V + 1) w3 v1 (ptrs V (offs K)) := by
      have e : (w2.alloc (.cells (cellsI (bare K)) 25)).heap.size = V + 1 := by simp [hV]
      rw [← e, ← hV]; exact hr
    rw [hV] at hz2 ⊢
    have V3H := Lib.hid V3
    clear hb3 hV C2 A2 L2 V3 hr
    obtain ⟨n, hn⟩ : ∃ n, (offs (K : Int)).length = n := ⟨_, rfl⟩
    have hn5 := offs_length (K : Int)
    rw [hn] at hn5
    by_cases h0 : n = 0
    · have he : offs (K : Int) = [] := List.eq_nil_of_length_eq_zero (hn.trans h0)
      have HG2 : Hid ((GD, GE) = (bare 0, 5)) := Lib.hid (by rw [HG1.out, if_pos he])
      obtain ⟨p, cp, rfl⟩ := hrV.len
      rw [ptrs_length, hn, h0]
      clear HG1 he hn h0 hrV C3 V3H
      go_wp2_with (with_reducible refine ev_store rfl 25 (.tmp 2) (.tmp 32) rfl w.heap.size (cellsI (bare 0)) rfl rfl 25 _ A3.out (by kernel_rfl) rfl (cellsI_one _) ?_; intro w9 hb9 hc9 hz9)
      refine bodyPost_ret (res_ct rfl _ w.heap.size 25 (cellsI (bare 0)) _ rfl hb9 hu rfl (info_event _ rfl)) rfl ⟨by rw [(Prod.mk.inj HG2.out).1, (Prod.mk.inj HG2.out).2]; rfl, ?_⟩
      exact Chg.belowOf L3.out hc9 (fun k hk => by omega) L3.out.size
    · have he : offs (K : Int) ≠ [] := fun e => h0 (by rw [← hn, e]; rfl)
      have hG2 : (GD, GE) = if (getGo s (offs (K : Int)) 1 (bare (K : Int))).2.2 ≠ 0 then (bare 0, (getGo s (offs (K : Int)) 1 (bare (K : Int))).2.2) else
        if (getGo s (offs (K : Int)) 1 (bare (K : Int))).2.1 < s.size then (bare 0, 2) else if checkL (getGo s (offs (K : Int)) 1 (bare (K : Int))).1 ≠ 0 then (bare 0, checkL (getGo s (offs (K : Int)) 1 (bare (K : Int))).1) else ((getGo s (offs (K : Int)) 1 (bare (K : Int))).1, 0) := by rw [HG1.out, if_neg he]
      obtain ⟨G, hGG⟩ : ∃ G, getGo s (offs (K : Int)) 1 (bare (K : Int)) = G := ⟨_, rfl⟩
      rw [hGG] at hG2
      have HG2 := Lib.hid hG2
      have HGG := Lib.hid hGG
      rcases hrV with ⟨_, _, _, hnil⟩ | ⟨r, off, cap, rfl, hr3, hr4, hrc⟩
      · exfalso; apply h0
        have := congrArg List.length hnil
        rw [ptrs_length, hn] at this
        exact this
      rw [ptrs_length, hn]
      have HRC : Hid (∀ j o, (offs (K : Int))[j]? = some o → w3.cell? ⟨r, off + j, none⟩ = some (.pointer (some ⟨V, o, none⟩))) := Lib.hid (fun j o hj => hrc j _ (by simp [ptrs, hj]))
      have HN := Lib.hid hn
      have hnz : ((n : Int) == 0) = false := by rw [beq_eq_false_iff_ne]; omega
      have hrV2 : V < r := by omega
      clear hG2 hGG HG1 he hn h0 hrc hr3
      go_wp2_with fail
      go_loopg [35] n (fun gg s35 wr => ∃ (i a : Nat) (d : List Int), i ≤ n ∧ gg = n - i ∧ s35 = .int .i64 i ∧ a ≤ s.size ∧ Hid (d.length = 8) ∧ Hid (Cur wr (w.heap.size + 1) s a) ∧ Hid (Blk wr V (cellsI d) 25) ∧ Hid (Blk wr w.heap.size (cellsI (bare 0)) 25) ∧ Hid (∀ j o, (offs (K : Int))[j]? = some o → wr.cell? ⟨r, off + j, none⟩ = some (.pointer (some ⟨V, o, none⟩))) ∧ Hid (Below w.heap.size w wr) ∧ r < wr.heap.size ∧ Hid (getGo s ((offs (K : Int)).drop i) a d = G))
      case atStart => exact ⟨0, 1, bare K, by omega, rfl, rfl, by omega, Lib.hid rfl, C3, V3H, A3, HRC, L3, hr4, HGG⟩
      case round =>
        clear C3 V3H A3 HRC L3 hr4 HGG
        obtain ⟨i, a, d, hi', hg, rfl, ha, HD, HC, HV, HA, HRC, HL, hrr, HGG⟩ := hrel
        have hg := hg.symm
        subst hg
        by_cases hlt : i < n
        · obtain ⟨o, ho⟩ : ∃ o, (offs (K : Int))[i]? = some o := ⟨_, List.getElem?_eq_getElem (by rw [HN.out]; exact hlt)⟩
          have hol := offs_lt _ o (List.mem_of_getElem? ho)
          have k1 := HRC.out i o ho
          have hGo := getGo_drop s (offs (K : Int)) i o a d ho
          have hiI : (i : Int) < (n : Int) := by omega
          have hi0 : (0 : Int) ≤ (i : Int) := by omega
          rw [HGG.out] at hGo
          clear ho
          have CV := cur_var (w.heap.size + 1) s a hs ha wr HC.out
          obtain ⟨T, hT⟩ : ∃ T, Oct.takeVar (rest s a) = T := ⟨_, rfl⟩
          rw [hT] at CV hGo
          have hTl : a + tookLen T ≤ s.size := by
            cases T with
            | short => exact ha
            | form => exact ha
            | num m q =>
              have := (Oct.takeVar_num _ m q hT).1
              rw [rest_length] at this
              show a + q ≤ s.size; omega
          clear hT
          have CVH := Lib.hid CV
          have HGO := Lib.hid hGo
          clear CV hGo
          go_wp2_with fail
          refine CVH.out.mono ?_
          rintro e w4 ⟨rfl, hc4, hg4, hz4⟩
          have k1' := (hg4.block r hrr (by simp; omega))
          have HV4 := Lib.hid (HV.out.gby hg4 (by omega))
          have HA4 := Lib.hid (HA.out.gby hg4 (by omega))
          have HC4 := Lib.hid hc4
          have HL4 := Lib.hid (below_gby HL.out hg4 (by omega) HL.out.size)
          have HRC4 : Hid (∀ j o, (offs (K : Int))[j]? = some o → w4.cell? ⟨r, off + j, none⟩ = some (.pointer (some ⟨V, o, none⟩))) := Lib.hid (fun j o hj => (World.cell?_of_block k1').trans (HRC.out j o hj))
          have v0 := HV4.out.cell (cellsI_at (l := d) (i := o) (by rw [HD.out]; omega))
          have v1 := HV4.out.free o
          have hrr4 : r < w4.heap.size := by omega
          clear hc4 hg4 hz4 k1' HV HA HC HL HRC CVH
          cases T with
          | short =>
            have HG3 : Hid ((GD, GE) = (bare 0, 3)) := Lib.hid (by rw [HG2.out, HGO.out]; rfl)
            clear HGO HG2 HGG
            have A5 := Lib.hid (HA4.out.far (a := ⟨V, o, none⟩) (by show ¬ V = _; omega) (.int .i64 0))
            have L5 := Lib.hid (HL4.out.setCell (p := ⟨V, o, none⟩) (by show _ ≤ V; omega) (.int .i64 0))
            rw [varVal]
            go_wp2_with (with_reducible refine ev_store rfl 25 (.tmp 2) (.tmp 48) rfl w.heap.size (cellsI (bare 0)) rfl rfl 25 _ A5.out (by kernel_rfl) rfl (cellsI_one _) ?_; intro w9 hb9 hc9 hz9)
            refine bodyPost_ret (res_ct rfl _ w.heap.size 25 (cellsI (bare 0)) _ rfl hb9 hu rfl (info_event _ rfl)) rfl ⟨by rw [(Prod.mk.inj HG3.out).1, (Prod.mk.inj HG3.out).2]; rfl, ?_⟩
            exact Chg.belowOf L5.out hc9 (fun k hk => by omega) L5.out.size
          | form =>
            have HG3 : Hid ((GD, GE) = (bare 0, 2)) := Lib.hid (by rw [HG2.out, HGO.out]; rfl)
            clear HGO HG2 HGG
            have A5 := Lib.hid (HA4.out.far (a := ⟨V, o, none⟩) (by show ¬ V = _; omega) (.int .i64 0))
            have L5 := Lib.hid (HL4.out.setCell (p := ⟨V, o, none⟩) (by show _ ≤ V; omega) (.int .i64 0))
            rw [varVal]
            go_wp2_with (with_reducible refine ev_store rfl 25 (.tmp 2) (.tmp 48) rfl w.heap.size (cellsI (bare 0)) rfl rfl 25 _ A5.out (by kernel_rfl) rfl (cellsI_one _) ?_; intro w9 hb9 hc9 hz9)
            refine bodyPost_ret (res_ct rfl _ w.heap.size 25 (cellsI (bare 0)) _ rfl hb9 hu rfl (info_event _ rfl)) rfl ⟨by rw [(Prod.mk.inj HG3.out).1, (Prod.mk.inj HG3.out).2]; rfl, ?_⟩
            exact Chg.belowOf L5.out hc9 (fun k hk => by omega) L5.out.size
          | num m q =>
            have HGN : Hid (getGo s ((offs (K : Int)).drop (i + 1)) (a + q) (d.set o m) = G) := Lib.hid HGO.out.symm
            clear HGO HGG
            rw [varVal]
            go_wp2_with fail
            go_roundg (n - (i + 1))
            case measure => omega
            case rel =>
              refine ⟨i + 1, a + q, d.set o m, by omega, rfl, by go_num, hTl, Lib.hid (by rw [List.length_set]; exact HD.out), Lib.hid (HC4.out.far (a := ⟨V, o, none⟩) (by show ¬ V = _; omega) _), Lib.hid ?_, Lib.hid (HA4.out.far (a := ⟨V, o, none⟩) (by show ¬ V = _; omega) _), Lib.hid (fun j o' hj => ?_), Lib.hid (HL4.out.setCell (p := ⟨V, o, none⟩) (by show _ ≤ V; omega) _), by simpa using hrr4, HGN⟩
              · rw [← cellsI_set]; exact HV4.out.set o _
              · exact (World.cell?_setCell_other _ ⟨V, o, none⟩ ⟨r, off + j, none⟩ _ (by intro h; injection h with h1; omega)).trans (HRC4.out j o' hj)
        · obtain rfl : i = n := by omega
          have hGd : G = (d, a, 0) := by
            rw [← HGG.out, List.drop_eq_nil_of_le (by rw [HN.out]; omega)]; rfl
          have hG3 : (GD, GE) = if a < s.size then (bare 0, 2) else if checkL d ≠ 0 then (bare 0, checkL d) else (d, 0) := by
            rw [HG2.out, hGd]; rfl
          have HG3 := Lib.hid hG3
          clear hG3 hGd HGG HG2 HRC
          have CL := cur_left (w.heap.size + 1) s a hs ha wr HC.out
          obtain ⟨y, hy⟩ : ∃ y, s.size - a = y := ⟨_, rfl⟩
          rw [hy] at CL
          have CLH := Lib.hid CL
          clear CL
          go_wp2_with fail
          refine CLH.out.mono ?_
          rintro e w4 ⟨rfl, rfl⟩
          by_cases hya : a < s.size
          · have hy0 : (0 : Int) < (y : Int) := by omega
            have HG4 : Hid ((GD, GE) = (bare 0, 2)) := Lib.hid (by rw [HG3.out, if_pos hya])
            clear hy hya HG3
            go_wp2_with (with_reducible refine ev_store rfl 25 (.tmp 2) (.tmp 54) rfl w.heap.size (cellsI (bare 0)) rfl rfl 25 _ HA.out.drew (by kernel_rfl) rfl (cellsI_one _) ?_; intro w9 hb9 hc9 hz9)
            refine bodyPost_ret (res_ct rfl _ w.heap.size 25 (cellsI (bare 0)) _ rfl hb9 hu rfl (info_event _ rfl)) rfl ⟨by rw [(Prod.mk.inj HG4.out).1, (Prod.mk.inj HG4.out).2]; rfl, ?_⟩
            exact Chg.belowOf HL.out.drew hc9 (fun k hk => by omega) HL.out.size
          · obtain rfl : y = 0 := by omega
            have HG4 : Hid ((GD, GE) = if checkL d ≠ 0 then (bare 0, checkL d) else (d, 0)) := Lib.hid (by rw [HG3.out, if_neg hya])
            clear hy hya HG3 hg hlt
            have HCK := Lib.hid (event_check d HD.out)
            obtain ⟨CK, hCK⟩ : ∃ c, checkL d = c := ⟨_, rfl⟩
            rw [hCK] at HG4 HCK
            clear hCK
            go_wp2_with (with_reducible refine ev_load rfl 25 (.tmp 7) rfl V rfl 25 (cellsI d) _ HV.out.drew hu rfl (info_event d HD.out) ?_)
            refine (HCK.out _).mono ?_
            rintro e w5 ⟨rfl, hb5⟩
            have A5 := Lib.hid (Blk.below (w := wr) HA.out (by exact ⟨hb5.os, hb5.tape, hb5.output, hb5.size, hb5.block⟩ : Below wr.heap.size wr w5) HA.out.lt)
            have V5 := Lib.hid (Blk.below (w := wr) HV.out (by exact ⟨hb5.os, hb5.tape, hb5.output, hb5.size, hb5.block⟩ : Below wr.heap.size wr w5) HV.out.lt)
            have L5 := Lib.hid (HL.out.trans (Below.mono (by exact ⟨hb5.os, hb5.tape, hb5.output, hb5.size, hb5.block⟩ : Below wr.heap.size wr w5) HL.out.size))
            clear hb5
            by_cases h0 : CK = 0
            · subst h0
              have HG5 : Hid ((GD, GE) = (d, 0)) := Lib.hid (by rw [HG4.out]; simp)
              clear HG4
              go_wp2_with (first
                | (with_reducible refine ev_load rfl 25 (.tmp 7) rfl V rfl 25 (cellsI d) _ V5.out hu rfl (info_event d HD.out) ?_)
                | (with_reducible refine ev_store rfl 25 (.tmp 2) (.tmp 61) rfl w.heap.size (cellsI d) rfl rfl 25 _ A5.out (info_event d HD.out) (by simp [cellsI_size, HD.out, bare_length]) (cellsI_one _) ?_; intro w9 hb9 hc9 hz9))
              refine bodyPost_ret (res_ct rfl _ w.heap.size 25 (cellsI d) _ rfl hb9 hu rfl (info_event d HD.out)) rfl ⟨by rw [(Prod.mk.inj HG5.out).1, (Prod.mk.inj HG5.out).2]; rfl, ?_⟩
              exact Chg.belowOf L5.out hc9 (fun k hk => by omega) L5.out.size
            · have hne : (CK == 0) = false := by rw [beq_eq_false_iff_ne]; exact h0
              have HG5 : Hid ((GD, GE) = (bare 0, CK)) := Lib.hid (by rw [HG4.out, if_pos h0])
              clear HG4 h0
              go_wp2_with (with_reducible refine ev_store rfl 25 (.tmp 2) (.tmp 59) rfl w.heap.size (cellsI (bare 0)) rfl rfl 25 _ A5.out (by kernel_rfl) rfl (cellsI_one _) ?_; intro w9 hb9 hc9 hz9)
              refine bodyPost_ret (res_ct rfl _ w.heap.size 25 (cellsI (bare 0)) _ rfl hb9 hu rfl (info_event _ rfl)) rfl ⟨by rw [(Prod.mk.inj HG5.out).1, (Prod.mk.inj HG5.out).2]; rfl, ?_⟩
              exact Chg.belowOf L5.out hc9 (fun k hk => by omega) L5.out.size
end Go.Proofs.YtokghlmffkboiaaGreat
