/-
  The message of bytes (the reference of reeve's layer 35): the walk.
-/
import Derived.Test.YtcibeiehdjekiaaGreatDoorMsgGet
import Derived.Test.YtcibeiehdjekiaaGreatDoorMsgRefPut
import Derived.Test.YtcibeiehdjekiaaGreatDoorPutAll
namespace Go.Proofs.YtcibeiehdjekiaaGreatDoor
open Go.RowKit
set_option linter.unusedVariables false
set_option linter.unusedSimpArgs false

theorem row_two {w : World} {p : Option Addr} {i cap : Nat} {xs : List Int} {B : Nat} (h : OwnI B w (.slice p i cap) xs) (hl : xs.length = i) (h2 : 2 ≤ i) :
    ∃ b j2 pp, p = some ⟨b, 0, none⟩ ∧ i = j2 + 2 ∧ b < w.heap.size ∧ w.cell? ⟨b, 0, none⟩ = some (.int .i64 (fld xs 0)) ∧ w.cell? ⟨b, 1, none⟩ = some (.int .i64 (fld xs 1)) ∧
      (if cap = 2 then some (⟨b, 0, none⟩ : Addr) else some ⟨b, 2, none⟩) = pp ∧
      ∀ wx, Below w.heap.size w wx → RowV 0 wx (.slice pp j2 (cap - 2)) ((xs.drop 2).map (Value.int .i64)) := by
  have hml : (xs.map (Value.int .i64)).length = i := by rw [List.length_map, hl]
  have hrow := h.row
  obtain ⟨_, ⟨hv, h0⟩ | ⟨g, cp, cur, hv, _, hh, hcap, _⟩⟩ := h
  · omega
  rw [hl] at hv hcap
  injection hv with e1 e2 e3
  subst e1 e3
  rcases hrow with ⟨_, _, ee, hnil⟩ | ⟨b, off, cp, ee, _, hbl, hc⟩
  · have := congrArg List.length hnil; rw [hml] at this; simp at this; omega
  · rw [hml] at ee
    injection ee with e1 e2 e3
    injection e1 with e1
    injection e1 with e1 e4
    subst e1 e3 e4
    match xs, hl, h2 with
    | x0 :: x1 :: r, hl, h2 =>
      have hl : r.length + 1 + 1 = i := hl
      refine ⟨g, r.length, _, rfl, by omega, hbl, hc 0 _ rfl, hc 1 _ rfl, rfl, fun wx hb => ?_⟩
      by_cases hc2 : cap = 2
      · rw [if_pos hc2]
        have hr0 : r = [] := List.eq_nil_of_length_eq_zero (by omega)
        subst hr0
        exact .inr ⟨g, 0, cap - 2, rfl, Nat.zero_le _, Nat.lt_of_lt_of_le hbl hb.size, fun j x hj => by simp at hj⟩
      · rw [if_neg hc2]
        refine .inr ⟨g, 2, cap - 2, by rw [List.length_map]; rfl, Nat.zero_le _, Nat.lt_of_lt_of_le hbl hb.size, fun j x hj => ?_⟩
        have := hc (2 + j) x (by rw [Nat.add_comm 2 j]; exact hj)
        rw [Nat.zero_add] at this
        exact keepB hb this hbl
    | [x], hl, h2 => simp at hl; omega
    | [], hl, h2 => simp at hl; omega
theorem cell_set12 {w : World} {g : Nat} {p : Addr} {x : Value} (hc : w.cell? p = some x) (h : ¬ g = p.block) (v0 v1 v2 v3 v4 v5 v6 v7 v8 v9 v10 v11 : Value) : World.cell? ((((((((((((w.setCell ⟨g, 0, none⟩ v0).setCell ⟨g, 1, none⟩ v1).setCell ⟨g, 2, none⟩ v2).setCell ⟨g, 3, none⟩ v3).setCell ⟨g, 4, none⟩ v4).setCell ⟨g, 5, none⟩ v5).setCell ⟨g, 6, none⟩ v6).setCell ⟨g, 7, none⟩ v7).setCell ⟨g, 8, none⟩ v8).setCell ⟨g, 9, none⟩ v9).setCell ⟨g, 10, none⟩ v10).setCell ⟨g, 11, none⟩ v11) p = some x := by
  have h1 := (World.cell?_setCell_other w ⟨g, 0, none⟩ p v0 (fun e => h (by rw [← e]))).trans hc
  have h2 := (World.cell?_setCell_other (w.setCell ⟨g, 0, none⟩ v0) ⟨g, 1, none⟩ p v1 (fun e => h (by rw [← e]))).trans h1
  have h3 := (World.cell?_setCell_other ((w.setCell ⟨g, 0, none⟩ v0).setCell ⟨g, 1, none⟩ v1) ⟨g, 2, none⟩ p v2 (fun e => h (by rw [← e]))).trans h2
  have h4 := (World.cell?_setCell_other (((w.setCell ⟨g, 0, none⟩ v0).setCell ⟨g, 1, none⟩ v1).setCell ⟨g, 2, none⟩ v2) ⟨g, 3, none⟩ p v3 (fun e => h (by rw [← e]))).trans h3
  have h5 := (World.cell?_setCell_other ((((w.setCell ⟨g, 0, none⟩ v0).setCell ⟨g, 1, none⟩ v1).setCell ⟨g, 2, none⟩ v2).setCell ⟨g, 3, none⟩ v3) ⟨g, 4, none⟩ p v4 (fun e => h (by rw [← e]))).trans h4
  have h6 := (World.cell?_setCell_other (((((w.setCell ⟨g, 0, none⟩ v0).setCell ⟨g, 1, none⟩ v1).setCell ⟨g, 2, none⟩ v2).setCell ⟨g, 3, none⟩ v3).setCell ⟨g, 4, none⟩ v4) ⟨g, 5, none⟩ p v5 (fun e => h (by rw [← e]))).trans h5
  have h7 := (World.cell?_setCell_other ((((((w.setCell ⟨g, 0, none⟩ v0).setCell ⟨g, 1, none⟩ v1).setCell ⟨g, 2, none⟩ v2).setCell ⟨g, 3, none⟩ v3).setCell ⟨g, 4, none⟩ v4).setCell ⟨g, 5, none⟩ v5) ⟨g, 6, none⟩ p v6 (fun e => h (by rw [← e]))).trans h6
  have h8 := (World.cell?_setCell_other (((((((w.setCell ⟨g, 0, none⟩ v0).setCell ⟨g, 1, none⟩ v1).setCell ⟨g, 2, none⟩ v2).setCell ⟨g, 3, none⟩ v3).setCell ⟨g, 4, none⟩ v4).setCell ⟨g, 5, none⟩ v5).setCell ⟨g, 6, none⟩ v6) ⟨g, 7, none⟩ p v7 (fun e => h (by rw [← e]))).trans h7
  have h9 := (World.cell?_setCell_other ((((((((w.setCell ⟨g, 0, none⟩ v0).setCell ⟨g, 1, none⟩ v1).setCell ⟨g, 2, none⟩ v2).setCell ⟨g, 3, none⟩ v3).setCell ⟨g, 4, none⟩ v4).setCell ⟨g, 5, none⟩ v5).setCell ⟨g, 6, none⟩ v6).setCell ⟨g, 7, none⟩ v7) ⟨g, 8, none⟩ p v8 (fun e => h (by rw [← e]))).trans h8
  have h10 := (World.cell?_setCell_other (((((((((w.setCell ⟨g, 0, none⟩ v0).setCell ⟨g, 1, none⟩ v1).setCell ⟨g, 2, none⟩ v2).setCell ⟨g, 3, none⟩ v3).setCell ⟨g, 4, none⟩ v4).setCell ⟨g, 5, none⟩ v5).setCell ⟨g, 6, none⟩ v6).setCell ⟨g, 7, none⟩ v7).setCell ⟨g, 8, none⟩ v8) ⟨g, 9, none⟩ p v9 (fun e => h (by rw [← e]))).trans h9
  have h11 := (World.cell?_setCell_other ((((((((((w.setCell ⟨g, 0, none⟩ v0).setCell ⟨g, 1, none⟩ v1).setCell ⟨g, 2, none⟩ v2).setCell ⟨g, 3, none⟩ v3).setCell ⟨g, 4, none⟩ v4).setCell ⟨g, 5, none⟩ v5).setCell ⟨g, 6, none⟩ v6).setCell ⟨g, 7, none⟩ v7).setCell ⟨g, 8, none⟩ v8).setCell ⟨g, 9, none⟩ v9) ⟨g, 10, none⟩ p v10 (fun e => h (by rw [← e]))).trans h10
  have h12 := (World.cell?_setCell_other (((((((((((w.setCell ⟨g, 0, none⟩ v0).setCell ⟨g, 1, none⟩ v1).setCell ⟨g, 2, none⟩ v2).setCell ⟨g, 3, none⟩ v3).setCell ⟨g, 4, none⟩ v4).setCell ⟨g, 5, none⟩ v5).setCell ⟨g, 6, none⟩ v6).setCell ⟨g, 7, none⟩ v7).setCell ⟨g, 8, none⟩ v8).setCell ⟨g, 9, none⟩ v9).setCell ⟨g, 10, none⟩ v10) ⟨g, 11, none⟩ p v11 (fun e => h (by rw [← e]))).trans h11
  exact h12
theorem mnums_bare (k : Int) : (numsM (bare3 k 0 0)).length + 2 = (allM k).length := by unfold numsM allM; rw [List.length_map]; simp; rfl
theorem lay_ends (k : Int) (ts : List Int) (h : ts.length = (allM k).length) : layZ (allM k) ts (bare3 k 0 0) = layZ (offsM k) (ts.drop 2) (bare3 k (fld ts 0) (fld ts 1)) := by
  unfold allM at *
  match ts, h with
  | f :: t :: r, _ => rfl
  | [f], h => simp at h
  | [], h => simp at h
set_option maxRecDepth 100000 in
set_option maxHeartbeats 1600000 in
theorem ref35_get (s : ByteArray) (hs : s.size ≤ maxLen) (w : World) :
    Calls Tryz.prog 20 #[.string s] w fun e w' => e = .returned (.tuple #[.agg (cellsI (getM s).1), .int .i64 (getM s).2]) ∧ Below w.heap.size w w' := by
  have hu := Tryz.underlying25
  have hs63 : s.size ≤ 9223372036854775807 := by unfold maxLen at hs; omega
  have OP := fun w => ref04_open s hs w
  obtain ⟨sz, hsz, hszl, hbl200⟩ := openF_nat s
  have hGM : getM s = if (openF s).2.2 ≠ 0 then (bare3 0 0 0, (openF s).2.2) else if (openF s).2.1 < s.size then (bare3 0 0 0, 2) else getMb (openF s).1 := rfl
  rw [hsz] at OP hGM
  obtain ⟨BD, hBD⟩ : ∃ b, (openF s).1 = b := ⟨_, rfl⟩
  obtain ⟨OE, hOE⟩ : ∃ b, (openF s).2.2 = b := ⟨_, rfl⟩
  rw [hBD] at OP hGM hbl200
  rw [hOE] at OP hGM
  obtain ⟨GD, hGD⟩ : ∃ g, (getM s).1 = g := ⟨_, rfl⟩
  obtain ⟨GE, hGE⟩ : ∃ g, (getM s).2 = g := ⟨_, rfl⟩
  have hG2 : getM s = (GD, GE) := by rw [← hGD, ← hGE]
  rw [hG2] at hGM
  rw [hGD, hGE]
  clear hGD hGE hG2 hBD hOE hsz
  have HGM := Lib.hid hGM
  have OPH := Lib.hid OP
  clear hGM OP
  obtain ⟨W, hW⟩ : ∃ W, (w.alloc (.cells #[.int .i64 0, .int .i64 0, .int .i64 0, .int .i64 0, .int .i64 0, .int .i64 0, .int .i64 0, .int .i64 0, .int .i64 0, .int .i64 0, .int .i64 0, .int .i64 0] 25)).alloc (.cells #[.int .i64 0, .int .i64 0, .int .i64 0, .int .i64 0, .int .i64 0, .int .i64 0, .int .i64 0, .int .i64 0, .int .i64 0, .int .i64 0, .int .i64 0, .int .i64 0] 25) = W := ⟨_, rfl⟩
  have HA : Hid (Blk W w.heap.size (cellsI (bare3 0 0 0)) 25) := Lib.hid (by rw [← hW]; exact (Blk.new w _ _).alloc _)
  have HZ : Hid (Blk W (w.heap.size + 1) (cellsI (bare3 0 0 0)) 25) := Lib.hid (by rw [← hW]; exact blk_second w _ _ _ _)
  have HL : Hid (Below w.heap.size w W) := Lib.hid (by rw [← hW]; exact ((Below.refl w.heap.size w).alloc (Nat.le_refl _) _).alloc (by simp) _)
  have HWS : Hid (W.heap.size = w.heap.size + 2) := Lib.hid (by rw [← hW]; simp)
  have HW := Lib.hid hW
  clear hW
  go_enter Tryz.func20, Tryz.ntmps20
  go_upto_region 2 with fail
  rw [HW.out]
  clear HW
  go_wp2_with fail
  refine (OPH.out _).mono ?_
  rintro e w1 ⟨rfl, hb1⟩
  have L1 : Hid (Below (w.heap.size + 2) W w1) := Lib.hid (hb1.mono (by rw [HWS.out]; exact Nat.le_refl _))
  have A1 := Lib.hid (HA.out.below L1.out (by omega))
  have Z1 := Lib.hid (HZ.out.below L1.out (by omega))
  have B1 := Lib.hid (HL.out.trans (L1.out.mono (by omega)))
  clear hb1 OPH
  by_cases hoe : OE = 0
  case neg =>
    have hne : (OE == 0) = false := by rw [beq_eq_false_iff_ne]; exact hoe
    have HF : Hid ((GD, GE) = (bare3 0 0 0, OE)) := Lib.hid (by rw [HGM.out, if_pos hoe])
    clear hoe HGM
    go_wp2_with (first
      | (with_reducible refine ev_load rfl 25 (.tmp 4) rfl (w.heap.size + 1) rfl 25 (cellsI (bare3 0 0 0)) _ Z1.out hu rfl (info_msg _ rfl) ?_)
      | (with_reducible refine ev_store rfl 25 (.tmp 2) (.tmp 24) rfl w.heap.size (cellsI (bare3 0 0 0)) rfl rfl 25 _ A1.out (by kernel_rfl) rfl (cellsI_one _) ?_; intro w9 hb9 hc9 hz9))
    refine bodyPost_ret (res_ct rfl _ w.heap.size 25 (cellsI (bare3 0 0 0)) _ rfl hb9 hu rfl (info_msg _ rfl)) rfl ⟨by rw [(Prod.mk.inj HF.out).1, (Prod.mk.inj HF.out).2]; rfl, ?_⟩
    exact Chg.belowOf B1.out hc9 (fun k hk => by omega) (by have := B1.out.size; omega)
  subst hoe
  by_cases hsl : sz < s.size
  · have hslI : (sz : Int) < (s.size : Int) := by omega
    have HF : Hid ((GD, GE) = (bare3 0 0 0, 2)) := Lib.hid (by rw [HGM.out, if_neg (by simp), if_pos hsl])
    clear hsl HGM
    go_wp2_with (first
      | (with_reducible refine ev_load rfl 25 (.tmp 4) rfl (w.heap.size + 1) rfl 25 (cellsI (bare3 0 0 0)) _ Z1.out hu rfl (info_msg _ rfl) ?_)
      | (with_reducible refine ev_store rfl 25 (.tmp 2) (.tmp 30) rfl w.heap.size (cellsI (bare3 0 0 0)) rfl rfl 25 _ A1.out (by kernel_rfl) rfl (cellsI_one _) ?_; intro w9 hb9 hc9 hz9))
    refine bodyPost_ret (res_ct rfl _ w.heap.size 25 (cellsI (bare3 0 0 0)) _ rfl hb9 hu rfl (info_msg _ rfl)) rfl ⟨by rw [(Prod.mk.inj HF.out).1, (Prod.mk.inj HF.out).2]; rfl, ?_⟩
    exact Chg.belowOf B1.out hc9 (fun k hk => by omega) (by have := B1.out.size; omega)
  have hslI : (s.size : Int) ≤ (sz : Int) := by omega
  obtain ⟨K, hK⟩ : ∃ K : Nat, Oct.numFrom 0 ((rest BD 0).take 1) = K := ⟨_, rfl⟩
  have hG : (GD, GE) = if BD.size = 0 then (bare3 0 0 0, 3) else if offsM (K : Int) = [] then (bare3 0 0 0, 5) else if (getGo BD (allM (K : Int)) 1 (bare3 (K : Int) 0 0)).2.2 ≠ 0 then (bare3 0 0 0, (getGo BD (allM (K : Int)) 1 (bare3 (K : Int) 0 0)).2.2) else if (getGo BD (allM (K : Int)) 1 (bare3 (K : Int) 0 0)).2.1 < BD.size then (bare3 0 0 0, 2) else if checkM (getGo BD (allM (K : Int)) 1 (bare3 (K : Int) 0 0)).1 ≠ 0 then (bare3 0 0 0, 1) else ((getGo BD (allM (K : Int)) 1 (bare3 (K : Int) 0 0)).1, 0) := by
    rw [HGM.out, if_neg (by simp), if_neg (by omega)]; unfold getMb; rw [hK]
  have HG := Lib.hid hG
  have HK := Lib.hid hK
  have hb63 : BD.size ≤ 9223372036854775807 := by omega
  clear hK hG HGM hsl
  by_cases hz : BD.size = 0
  · have HG2 : Hid ((GD, GE) = (bare3 0 0 0, 3)) := Lib.hid (by rw [HG.out, if_pos hz])
    have hz1 : ((BD.size : Int) == 0) = true := by simp [hz]
    clear hz HG HK
    go_wp2_with (first
      | (with_reducible refine ev_load rfl 25 (.tmp 4) rfl (w.heap.size + 1) rfl 25 (cellsI (bare3 0 0 0)) _ Z1.out hu rfl (info_msg _ rfl) ?_)
      | (with_reducible refine ev_store rfl 25 (.tmp 2) (.tmp 34) rfl w.heap.size (cellsI (bare3 0 0 0)) rfl rfl 25 _ A1.out (by kernel_rfl) rfl (cellsI_one _) ?_; intro w9 hb9 hc9 hz9))
    refine bodyPost_ret (res_ct rfl _ w.heap.size 25 (cellsI (bare3 0 0 0)) _ rfl hb9 hu rfl (info_msg _ rfl)) rfl ⟨by rw [(Prod.mk.inj HG2.out).1, (Prod.mk.inj HG2.out).2]; rfl, ?_⟩
    exact Chg.belowOf B1.out hc9 (fun k hk => by omega) (by have := B1.out.size; omega)
  · have hz' : 0 < BD.size := by omega
    have hG1 : (GD, GE) = if offsM (K : Int) = [] then (bare3 0 0 0, 5) else if (getGo BD (allM (K : Int)) 1 (bare3 (K : Int) 0 0)).2.2 ≠ 0 then (bare3 0 0 0, (getGo BD (allM (K : Int)) 1 (bare3 (K : Int) 0 0)).2.2) else if (getGo BD (allM (K : Int)) 1 (bare3 (K : Int) 0 0)).2.1 < BD.size then (bare3 0 0 0, 2) else if checkM (getGo BD (allM (K : Int)) 1 (bare3 (K : Int) 0 0)).1 ≠ 0 then (bare3 0 0 0, 1) else ((getGo BD (allM (K : Int)) 1 (bare3 (K : Int) 0 0)).1, 0) := by rw [HG.out, if_neg hz]
    have HG1 := Lib.hid hG1
    have hz1 : ((BD.size : Int) == 0) = false := by rw [beq_eq_false_iff_ne]; omega
    have hby : ((BD[0]'hz').toNat : Int) = (K : Int) := by rw [← first_num BD hz', HK.out]
    have hKb : (K : Int) ≤ 255 := by have := (UInt8.toNat_lt (BD[0]'hz')); omega
    have hzI : (0 : Int) < (BD.size : Int) := by omega
    clear hG1 HG hz HK
    go_upto_region 10 with fail
    go_wp2_with fail
    refine (ref35_names K w1).mono ?_
    rintro e w2 ⟨rfl, hb2⟩
    have L2 : Hid (Below (w.heap.size + 2) W w2) := Lib.hid (L1.out.trans (hb2.mono (by have := L1.out.size; rw [HWS.out] at this; exact this)))
    have A2 := Lib.hid (HA.out.below L2.out (by omega))
    have Z2 := Lib.hid (HZ.out.below L2.out (by omega))
    have B2 := Lib.hid (HL.out.trans (L2.out.mono (by omega)))
    clear hb2 hby L1 A1 Z1 B1
    by_cases h0 : offsM (K : Int) = []
    · have hn0 : nmM K = [] := (nmM_nil K).2 h0
      rw [hn0]
      have HG2 : Hid ((GD, GE) = (bare3 0 0 0, 5)) := Lib.hid (by rw [HG1.out, if_pos h0])
      clear h0 hn0
      have hstr : str [] = ⟨#[]⟩ := rfl
      rw [hstr]
      clear hstr
      go_wp2_with (first
        | (with_reducible refine ev_load rfl 25 (.tmp 4) rfl (w.heap.size + 1) rfl 25 (cellsI (bare3 0 0 0)) _ Z2.out hu rfl (info_msg _ rfl) ?_)
        | (with_reducible refine ev_store rfl 25 (.tmp 2) (.tmp 41) rfl w.heap.size (cellsI (bare3 0 0 0)) rfl rfl 25 _ A2.out (by kernel_rfl) rfl (cellsI_one _) ?_; intro w9 hb9 hc9 hz9))
      refine bodyPost_ret (res_ct rfl _ w.heap.size 25 (cellsI (bare3 0 0 0)) _ rfl hb9 hu rfl (info_msg _ rfl)) rfl ⟨by rw [(Prod.mk.inj HG2.out).1, (Prod.mk.inj HG2.out).2]; rfl, ?_⟩
      exact Chg.belowOf B2.out hc9 (fun k hk => by omega) (by have := B2.out.size; omega)
    · have hne : (str (nmM K)).toList.isEmpty = false := str_empty_ne (fun e => h0 ((nmM_nil K).1 (str_inj_p (e.trans rfl : str (nmM K) = str []))))
      generalize str (nmM (K : Int)) = S at hne ⊢
      have hG2 : (GD, GE) = if (getGo BD (allM (K : Int)) 1 (bare3 (K : Int) 0 0)).2.2 ≠ 0 then (bare3 0 0 0, (getGo BD (allM (K : Int)) 1 (bare3 (K : Int) 0 0)).2.2) else if (getGo BD (allM (K : Int)) 1 (bare3 (K : Int) 0 0)).2.1 < BD.size then (bare3 0 0 0, 2) else if checkM (getGo BD (allM (K : Int)) 1 (bare3 (K : Int) 0 0)).1 ≠ 0 then (bare3 0 0 0, 1) else ((getGo BD (allM (K : Int)) 1 (bare3 (K : Int) 0 0)).1, 0) := by rw [HG1.out, if_neg h0]
      obtain ⟨G, hGG⟩ : ∃ G, getGo BD (allM (K : Int)) 1 (bare3 (K : Int) 0 0) = G := ⟨_, rfl⟩
      rw [hGG] at hG2
      have HG2 := Lib.hid hG2
      have HGG := Lib.hid hGG
      have hNUM := ref35_numbers (bare3 K 0 0) rfl
      have hcb : cellsI (bare3 K 0 0) = #[.int .i64 K, .int .i64 0, .int .i64 0, .int .i64 0, .int .i64 0, .int .i64 0, .int .i64 0, .int .i64 0, .int .i64 0, .int .i64 0, .int .i64 0, .int .i64 0] := rfl
      rw [hcb] at hNUM
      have HNUM := Lib.hid hNUM
      obtain ⟨n, hn⟩ : ∃ n, (allM (K : Int)).length = n := ⟨_, rfl⟩
      have hn7 := allM_length (K : Int)
      have hnb := mnums_bare (K : Int)
      rw [hn] at hn7 hnb
      obtain ⟨nb, hnb2⟩ : ∃ nb, (numsM (bare3 (K : Int) 0 0)).length = nb := ⟨_, rfl⟩
      rw [hnb2] at hnb
      have hnbw : IntKind.i64.wrap (2 + (nb : Int)) = (n : Int) := by rw [IntKind.wrap_i64]; omega
      have HN := Lib.hid hn
      have HNB := Lib.hid hnb2
      clear hG2 hGG HG1 h0 hn hNUM hcb hnb2 A2 Z2 B2
      go_wp2_with fail
      go_loopg [9, 10] n (fun gg s9 s10 wr => ∃ (i a : Nat) (ts : List Int), i ≤ n ∧ gg = n - i ∧ ts.length = i ∧ a ≤ BD.size ∧ s10 = .int .i64 a ∧ Hid (OwnI (w.heap.size + 2) wr s9 ts) ∧ Hid (Below (w.heap.size + 2) W wr) ∧ Hid (getGo BD ((allM (K : Int)).drop i) a (layZ ((allM (K : Int)).take i) ts (bare3 K 0 0)) = G))
      case atStart => exact ⟨0, 1, [], by omega, rfl, rfl, by omega, rfl, Lib.hid (OwnI.nil _ _), L2, HGG⟩
      case round =>
        clear L2 HGG
        obtain ⟨i, a, ts, hi', hg, hts, ha, rfl, HO, HLr, HGG⟩ := hrel
        have hg := hg.symm
        subst hg
        have HTS := Lib.hid hts
        have hz2 : w.heap.size + 2 ≤ wr.heap.size := by have := HLr.out.size; rw [HWS.out] at this; exact this
        obtain ⟨p, cap, e5⟩ := HO.out.len
        subst e5
        rw [hts] at HO ⊢
        clear hts
        go_wp2_with fail
        refine (HNUM.out _).mono ?_
        rintro e w3 ⟨v2, rfl, ho2, hb2⟩
        obtain ⟨p2, cap2, rfl⟩ := ho2.len
        rw [HNB.out]
        have HO2 := Lib.hid (HO.out.below hb2 (Nat.le_refl _))
        have HL2 := Lib.hid (HLr.out.trans (hb2.mono hz2))
        have hz3 : w.heap.size + 2 ≤ w3.heap.size := by have := hb2.size; omega
        clear ho2 hb2 HO HLr
        have HA2 := Lib.hid (HA.out.below HL2.out (by omega))
        have HZ2 := Lib.hid (HZ.out.below HL2.out (by omega))
        have HLA := Lib.hid (HL.out.trans (HL2.out.mono (by omega)))
        by_cases hlt : i < n
        · obtain ⟨o, ho⟩ : ∃ o, (allM (K : Int))[i]? = some o := ⟨_, List.getElem?_eq_getElem (by rw [HN.out]; exact hlt)⟩
          have hGo := getGo_drop BD (allM (K : Int)) i o a (layZ ((allM (K : Int)).take i) ts (bare3 K 0 0)) ho
          have HLZ := Lib.hid (fun (x : Int) => layZ_take (allM (K : Int)) ts (bare3 K 0 0) i o x ho HTS.out)
          have hiI : (i : Int) < (n : Int) := by omega
          have hi0 : (0 : Int) ≤ (i : Int) := by omega
          rw [HGG.out] at hGo
          clear ho
          have TV := ref02_takeVar (BD.extract a BD.size) (by rw [ByteArray.size_extract]; unfold maxLen; omega)
          rw [rest_extract] at TV
          obtain ⟨T, hT⟩ : ∃ T, Oct.takeVar (rest BD a) = T := ⟨_, rfl⟩
          rw [hT] at TV hGo
          have hTl : a + tookLen T ≤ BD.size := by
            cases T with
            | short => exact ha
            | form => exact ha
            | num m q =>
              have := (Oct.takeVar_num _ m q hT).1
              rw [rest_length] at this
              show a + q ≤ BD.size; omega
          clear hT
          have TVH := Lib.hid TV
          have HGO := Lib.hid hGo
          have haI : (a : Int) ≤ (BD.size : Int) := by omega
          have ha0 : (0 : Int) ≤ (a : Int) := by omega
          clear TV hGo
          go_wp2_with fail
          refine (TVH.out _).mono ?_
          rintro e w4 ⟨rfl, hb4⟩
          have HO4 := Lib.hid (HO2.out.below hb4 (Nat.le_refl _))
          have HL4 := Lib.hid (HL2.out.trans (hb4.mono hz3))
          have HA4 := Lib.hid (HA2.out.below hb4 HA2.out.lt)
          have HZ4 := Lib.hid (HZ2.out.below hb4 HZ2.out.lt)
          have HLA4 := Lib.hid (HLA.out.trans (hb4.mono HLA.out.size))
          have hz4 : w.heap.size + 2 ≤ w4.heap.size := by have := hb4.size; omega
          clear hb4 HO2 HL2 HA2 HZ2 HLA TVH
          cases T with
          | short =>
            have HG3 : Hid ((GD, GE) = (bare3 0 0 0, 3)) := Lib.hid (by rw [HG2.out, HGO.out]; rfl)
            clear HGO HG2 HGG
            rw [tookVal]
            go_wp2_with (first
              | (with_reducible refine ev_load rfl 25 (.tmp 4) rfl (w.heap.size + 1) rfl 25 (cellsI (bare3 0 0 0)) _ HZ4.out hu rfl (info_msg _ rfl) ?_)
              | (with_reducible refine ev_store rfl 25 (.tmp 2) (.tmp 60) rfl w.heap.size (cellsI (bare3 0 0 0)) rfl rfl 25 _ HA4.out (by kernel_rfl) rfl (cellsI_one _) ?_; intro w9 hb9 hc9 hz9))
            refine bodyPost_ret (res_ct rfl _ w.heap.size 25 (cellsI (bare3 0 0 0)) _ rfl hb9 hu rfl (info_msg _ rfl)) rfl ⟨by rw [(Prod.mk.inj HG3.out).1, (Prod.mk.inj HG3.out).2]; rfl, ?_⟩
            exact Chg.belowOf HLA4.out hc9 (fun k hk => by omega) (by have := HLA4.out.size; omega)
          | form =>
            have HG3 : Hid ((GD, GE) = (bare3 0 0 0, 2)) := Lib.hid (by rw [HG2.out, HGO.out]; rfl)
            clear HGO HG2 HGG
            rw [tookVal]
            go_wp2_with (first
              | (with_reducible refine ev_load rfl 25 (.tmp 4) rfl (w.heap.size + 1) rfl 25 (cellsI (bare3 0 0 0)) _ HZ4.out hu rfl (info_msg _ rfl) ?_)
              | (with_reducible refine ev_store rfl 25 (.tmp 2) (.tmp 60) rfl w.heap.size (cellsI (bare3 0 0 0)) rfl rfl 25 _ HA4.out (by kernel_rfl) rfl (cellsI_one _) ?_; intro w9 hb9 hc9 hz9))
            refine bodyPost_ret (res_ct rfl _ w.heap.size 25 (cellsI (bare3 0 0 0)) _ rfl hb9 hu rfl (info_msg _ rfl)) rfl ⟨by rw [(Prod.mk.inj HG3.out).1, (Prod.mk.inj HG3.out).2]; rfl, ?_⟩
            exact Chg.belowOf HLA4.out hc9 (fun k hk => by omega) (by have := HLA4.out.size; omega)
          | num m q =>
            have HGN : Hid (getGo BD ((allM (K : Int)).drop (i + 1)) (a + q) (layZ ((allM (K : Int)).take (i + 1)) (ts ++ [(m : Int)]) (bare3 K 0 0)) = G) := Lib.hid (by rw [HLZ.out]; exact HGO.out.symm)
            have hTq : (a : Int) + (q : Int) ≤ (BD.size : Int) := by have : a + q ≤ BD.size := hTl; omega
            clear HGO HGG HLZ
            rw [tookVal]
            go_wp2_with (with_reducible refine ev_appI rfl (.tmp 62) (.tmp 64) rfl (w.heap.size + 2) W (.slice p i cap) ts rfl (HO4.out.below ((Below.refl w4.heap.size w4).alloc (Nat.le_refl _) _) (Nat.le_refl _)) (HL4.out.alloc hz4 _) (by simp; omega) w4.heap.size m rfl ((Blk.new w4 _ _).cell rfl) (by rw [HTS.out]; omega) ?_; intro v5 w5 ho5 hl5 hg5)
            have HO5 := Lib.hid ho5
            have HL5 := Lib.hid hl5
            clear ho5 hl5 hg5
            go_wp2_with fail
            go_roundg (n - (i + 1))
            case measure => omega
            case rel => exact ⟨i + 1, a + q, ts ++ [(m : Int)], by omega, rfl, by rw [List.length_append, HTS.out]; rfl, hTl, by go_num, HO5, HL5, HGN⟩
        · obtain rfl : i = n := by omega
          have hlen : ts.length = (allM (K : Int)).length := by rw [HTS.out, HN.out]
          have hd2 := lay_ends (K : Int) ts hlen
          obtain ⟨d, hd⟩ : ∃ d, layZ (allM (K : Int)) ts (bare3 K 0 0) = d := ⟨_, rfl⟩
          rw [hd] at hd2
          have hdl : d.length = 12 := by rw [← hd, layZ_length]; rfl
          have hGd : G = (d, a, 0) := by
            rw [← HGG.out, List.drop_eq_nil_of_le (by rw [HN.out]; exact Nat.le_refl _), List.take_of_length_le (by rw [HN.out]; exact Nat.le_refl _), hd]; rfl
          have hG3 : (GD, GE) = if a < BD.size then (bare3 0 0 0, 2) else if checkM d ≠ 0 then (bare3 0 0 0, 1) else (d, 0) := by
            rw [HG2.out, hGd]; rfl
          have HG3 := Lib.hid hG3
          have HDL := Lib.hid hdl
          have hi2 : 2 ≤ i := by rw [← HN.out]; unfold allM; simp
          have HMD := Lib.hid (fun (v : Value) (wx : World) (hv : RowV 0 wx v ((ts.drop 2).map (Value.int .i64))) => show Calls Tryz.prog 39 #[.int .i64 (K : Int), .int .i64 (fld ts 0), .int .i64 (fld ts 1), v] wx (fun e w' => e = .returned (.agg (cellsI d)) ∧ Below wx.heap.size wx w') by
            have := ref35_made K (fld ts 0) (fld ts 1) (ts.drop 2) (by rw [List.length_drop, hlen]; unfold allM; simp) v wx hv
            rw [← hd2] at this; exact this)
          clear hG3 hGd HGG HG2 hlen hd hdl hd2
          by_cases hya : a < BD.size
          · have hyI : (a : Int) < (BD.size : Int) := by omega
            have HG4 : Hid ((GD, GE) = (bare3 0 0 0, 2)) := Lib.hid (by rw [HG3.out, if_pos hya])
            clear hya HG3 HMD
            go_wp2_with (first
              | (with_reducible refine ev_load rfl 25 (.tmp 4) rfl (w.heap.size + 1) rfl 25 (cellsI (bare3 0 0 0)) _ HZ2.out hu rfl (info_msg _ rfl) ?_)
              | (with_reducible refine ev_store rfl 25 (.tmp 2) (.tmp 73) rfl w.heap.size (cellsI (bare3 0 0 0)) rfl rfl 25 _ HA2.out (by kernel_rfl) rfl (cellsI_one _) ?_; intro w9 hb9 hc9 hz9))
            refine bodyPost_ret (res_ct rfl _ w.heap.size 25 (cellsI (bare3 0 0 0)) _ rfl hb9 hu rfl (info_msg _ rfl)) rfl ⟨by rw [(Prod.mk.inj HG4.out).1, (Prod.mk.inj HG4.out).2]; rfl, ?_⟩
            exact Chg.belowOf HLA.out hc9 (fun k hk => by omega) (by have := HLA.out.size; omega)
          · have hyI : (BD.size : Int) ≤ (a : Int) := by omega
            have HG4 : Hid ((GD, GE) = if checkM d ≠ 0 then (bare3 0 0 0, 1) else (d, 0)) := Lib.hid (by rw [HG3.out, if_neg hya])
            clear hya HG3 hlt
            have HCK := Lib.hid (ref35_check d HDL.out)
            obtain ⟨CK, hCK⟩ : ∃ c, checkM d = c := ⟨_, rfl⟩
            rw [hCK] at HG4 HCK
            clear hCK
            -- the row of numbers, without its first two
            obtain ⟨b, j2, pp, rfl, hj2, hbl, hc0, hc1, hpp, hrow⟩ := row_two HO2.out HTS.out hi2
            have HROW := Lib.hid hrow
            have HPP := Lib.hid hpp
            obtain ⟨d0, d1, d2, d3, d4, d5, d6, d7, d8, d9, d10, d11, hd12⟩ := twelve_of HDL.out
            have hcd : cellsI d = #[.int .i64 d0, .int .i64 d1, .int .i64 d2, .int .i64 d3, .int .i64 d4, .int .i64 d5, .int .i64 d6, .int .i64 d7, .int .i64 d8, .int .i64 d9, .int .i64 d10, .int .i64 d11] := by rw [hd12]; rfl
            have HMK : Hid (∀ wx, Below w3.heap.size w3 wx → Calls Tryz.prog 39 #[.int .i64 (K : Int), .int .i64 (fld ts 0), .int .i64 (fld ts 1), .slice pp j2 (cap - 2)] wx fun e w' => e = .returned (.agg #[.int .i64 d0, .int .i64 d1, .int .i64 d2, .int .i64 d3, .int .i64 d4, .int .i64 d5, .int .i64 d6, .int .i64 d7, .int .i64 d8, .int .i64 d9, .int .i64 d10, .int .i64 d11]) ∧ Below wx.heap.size wx w') := Lib.hid (fun wx hb => by rw [← hcd]; exact HMD.out _ wx (HROW.out wx hb))
            have HCD := Lib.hid hcd
            generalize fld ts 0 = t0 at hc0 HMK
            generalize fld ts 1 = t1 at hc1 HMK
            clear hd12 hcd hrow hpp HMD HROW HO2 hi2
            subst hj2
            go_upto_region 22 with fail
            go_cut [14] (fun s14 wx => ∃ X : Nat, s14 = .pointer (some ⟨X, 0, none⟩) ∧ Blk wx X #[.int .i64 d0, .int .i64 d1, .int .i64 d2, .int .i64 d3, .int .i64 d4, .int .i64 d5, .int .i64 d6, .int .i64 d7, .int .i64 d8, .int .i64 d9, .int .i64 d10, .int .i64 d11] 25 ∧ Blk wx w.heap.size (cellsI (bare3 0 0 0)) 25 ∧ Blk wx (w.heap.size + 1) (cellsI (bare3 0 0 0)) 25 ∧ Below w.heap.size w wx ∧ w.heap.size + 2 ≤ X)
            case first =>
              refine wp_region_held_drew (S := (fun w' => w'.cell? ⟨b, 0, none⟩ = some (.int .i64 t0) ∧ w'.cell? ⟨b, 1, none⟩ = some (.int .i64 t1))) (by kernel_rfl) ⟨hc0, hc1⟩ (fun hHeld => ?_)
              refine wpAnyH_take (i := 0) (oi := ({ dst := some 74, op := Op.move (Operand.tmp 8), type := 3, pos := "ref.go:170", after := #[], guard := none })) (v := (.int .i64 (K : Int))) rfl (by kernel_rfl) (by kernel_rfl) (by kernel_rfl) (fun _ _ _ h => h) (Or.inl ⟨by rfl, ?_⟩) (by assumption) ?_
              · (intro w hSw; obtain ⟨s0, s1⟩ := hSw; go_simp <;> first | (intro hh; exfalso; omega) | (rw [if_pos (by omega), HPP.out]))
              try simp only [Act.put, List.setIfInBounds_toArray, List.set_cons_zero, List.set_cons_succ]
              refine wpAnyH_take (i := 1) (oi := ({ dst := some 75, op := Op.move (Operand.tmp 9), type := 57, pos := "ref.go:170", after := #[], guard := none })) (v := (.slice (some ⟨b, 0, none⟩) (j2 + 2) cap)) rfl (by kernel_rfl) (by kernel_rfl) (by kernel_rfl) (fun _ _ _ h => h) (Or.inl ⟨by rfl, ?_⟩) (by assumption) ?_
              · (intro w hSw; obtain ⟨s0, s1⟩ := hSw; go_simp <;> first | (intro hh; exfalso; omega) | (rw [if_pos (by omega), HPP.out]))
              try simp only [Act.put, List.setIfInBounds_toArray, List.set_cons_zero, List.set_cons_succ]
              refine wpAnyH_take (i := 2) (oi := ({ dst := some 76, op := Op.indexAddr 57 (Operand.tmp 75) (Operand.const (Value.int IntKind.i64 0)), type := 0, pos := "ref.go:170", after := #[{ on := 1, ground := Ground.data }], guard := none })) (v := (.pointer (some ⟨b, 0, none⟩))) rfl (by kernel_rfl) (by kernel_rfl) (by kernel_rfl) (fun _ _ _ h => h) (Or.inl ⟨by rfl, ?_⟩) (by assumption) ?_
              · (intro w hSw; obtain ⟨s0, s1⟩ := hSw; go_simp <;> first | (intro hh; exfalso; omega) | (rw [if_pos (by omega), HPP.out]))
              try simp only [Act.put, List.setIfInBounds_toArray, List.set_cons_zero, List.set_cons_succ]
              refine wpAnyH_take (i := 3) (oi := ({ dst := some 77, op := Op.load 3 (Operand.tmp 76), type := 3, pos := "ref.go:170", after := #[{ on := 2, ground := Ground.data }], guard := none })) (v := (.int .i64 t0)) rfl (by kernel_rfl) (by kernel_rfl) (by kernel_rfl) (fun _ _ _ h => h) (Or.inl ⟨by rfl, ?_⟩) (by assumption) ?_
              · (intro w hSw; obtain ⟨s0, s1⟩ := hSw; go_simp <;> first | (intro hh; exfalso; omega) | (rw [if_pos (by omega), HPP.out]))
              try simp only [Act.put, List.setIfInBounds_toArray, List.set_cons_zero, List.set_cons_succ]
              refine wpAnyH_take (i := 4) (oi := ({ dst := some 78, op := Op.move (Operand.tmp 9), type := 57, pos := "ref.go:170", after := #[], guard := none })) (v := (.slice (some ⟨b, 0, none⟩) (j2 + 2) cap)) rfl (by kernel_rfl) (by kernel_rfl) (by kernel_rfl) (fun _ _ _ h => h) (Or.inl ⟨by rfl, ?_⟩) (by assumption) ?_
              · (intro w hSw; obtain ⟨s0, s1⟩ := hSw; go_simp <;> first | (intro hh; exfalso; omega) | (rw [if_pos (by omega), HPP.out]))
              try simp only [Act.put, List.setIfInBounds_toArray, List.set_cons_zero, List.set_cons_succ]
              refine wpAnyH_take (i := 5) (oi := ({ dst := some 79, op := Op.indexAddr 57 (Operand.tmp 78) (Operand.const (Value.int IntKind.i64 1)), type := 0, pos := "ref.go:170", after := #[{ on := 4, ground := Ground.data }], guard := none })) (v := (.pointer (some ⟨b, 1, none⟩))) rfl (by kernel_rfl) (by kernel_rfl) (by kernel_rfl) (fun _ _ _ h => h) (Or.inl ⟨by rfl, ?_⟩) (by assumption) ?_
              · (intro w hSw; obtain ⟨s0, s1⟩ := hSw; go_simp <;> first | (intro hh; exfalso; omega) | (rw [if_pos (by omega), HPP.out]))
              try simp only [Act.put, List.setIfInBounds_toArray, List.set_cons_zero, List.set_cons_succ]
              refine wpAnyH_take (i := 6) (oi := ({ dst := some 80, op := Op.load 3 (Operand.tmp 79), type := 3, pos := "ref.go:170", after := #[{ on := 5, ground := Ground.data }], guard := none })) (v := (.int .i64 t1)) rfl (by kernel_rfl) (by kernel_rfl) (by kernel_rfl) (fun _ _ _ h => h) (Or.inl ⟨by rfl, ?_⟩) (by assumption) ?_
              · (intro w hSw; obtain ⟨s0, s1⟩ := hSw; go_simp <;> first | (intro hh; exfalso; omega) | (rw [if_pos (by omega), HPP.out]))
              try simp only [Act.put, List.setIfInBounds_toArray, List.set_cons_zero, List.set_cons_succ]
              refine wpAnyH_take (i := 7) (oi := ({ dst := some 81, op := Op.move (Operand.tmp 9), type := 57, pos := "ref.go:170", after := #[], guard := none })) (v := (.slice (some ⟨b, 0, none⟩) (j2 + 2) cap)) rfl (by kernel_rfl) (by kernel_rfl) (by kernel_rfl) (fun _ _ _ h => h) (Or.inl ⟨by rfl, ?_⟩) (by assumption) ?_
              · (intro w hSw; obtain ⟨s0, s1⟩ := hSw; go_simp <;> first | (intro hh; exfalso; omega) | (rw [if_pos (by omega), HPP.out]))
              try simp only [Act.put, List.setIfInBounds_toArray, List.set_cons_zero, List.set_cons_succ]
              refine wpAnyH_take (i := 8) (oi := ({ dst := some 82, op := Op.slice 57 (Operand.tmp 81) (some (Operand.const (Value.int IntKind.i64 2))) none none, type := 57, pos := "ref.go:170", after := #[{ on := 7, ground := Ground.data }], guard := none })) (v := (.slice pp j2 (cap - 2))) rfl (by kernel_rfl) (by kernel_rfl) (by kernel_rfl) (fun _ _ _ h => h) (Or.inl ⟨by rfl, ?_⟩) (by assumption) ?_
              · (intro w hSw; obtain ⟨s0, s1⟩ := hSw; go_simp <;> first | (intro hh; exfalso; omega) | (rw [if_pos (by omega), HPP.out]))
              try simp only [Act.put, List.setIfInBounds_toArray, List.set_cons_zero, List.set_cons_succ]
              refine wpAnyH_ready (rs := [9, 10]) (by kernel_rfl) (by simp) (AllReadyH.cons (o := ({ dst := some 83, op := Op.call { callee := Callee.value (Operand.func 39), args := #[Operand.tmp 74, Operand.tmp 77, Operand.tmp 80, Operand.tmp 82], argTypes := #[3, 3, 3, 57] }, type := 25, pos := "ref.go:170", after := #[{ on := 0, ground := Ground.data }, { on := 3, ground := Ground.data }, { on := 6, ground := Ground.data }, { on := 8, ground := Ground.data }], guard := none })) rfl (fun K hK => ?_) (AllReadyH.cons (o := ({ dst := some 14, op := Op.alloc 25, type := 0, pos := "ref.go:170", after := #[], guard := none })) rfl (fun K hK => ?_) AllReadyH.nil))
              · go_simp
                refine (HMK.out _ ?b1).mono ?_
                case b1 => exact (Below.refl _ w3).drew
                rintro e w4 ⟨rfl, hb4⟩
                have hb4 : Below w3.heap.size w3 w4 := ⟨hb4.os, hb4.tape, hb4.output, hb4.size, hb4.block⟩
                have kn : ¬ w4.heap.size = b := by have := hb4.size; omega
                have k0 := keepB hb4 hc0 hbl
                have k1 := keepB hb4 hc1 hbl
                go_wp2_with fail
                clear hHeld
                refine hK.out _ _ ⟨k0, k1⟩ (fun hHeld => ?_)
                clear hK K
                try simp only [Act.put, List.setIfInBounds_toArray, List.set_cons_zero, List.set_cons_succ]
                refine wpAnyH_ready (rs := [10]) (by kernel_rfl) (by simp) (AllReadyH.cons (o := ({ dst := some 14, op := Op.alloc 25, type := 0, pos := "ref.go:170", after := #[], guard := none })) rfl (fun K hK => ?_) AllReadyH.nil)
                go_simp
                have orderA := trivial
                clear hHeld
                refine hK.out _ _ ⟨keepA k0 _, keepA k1 _⟩ (fun hHeld => ?_)
                clear hK K
                try simp only [Act.put, List.setIfInBounds_toArray, List.set_cons_zero, List.set_cons_succ]
                refine wpAnyH_ready (rs := [11]) (by kernel_rfl) (by simp) (AllReadyH.cons (o := ({ dst := none, op := Op.store 25 (Operand.tmp 14) (Operand.tmp 83), type := 0, pos := "ref.go:170", after := #[{ on := 10, ground := Ground.data }, { on := 9, ground := Ground.data }, { on := 9, ground := Ground.chain }, { on := 0, ground := Ground.phase }, { on := 1, ground := Ground.phase }, { on := 2, ground := Ground.phase }, { on := 3, ground := Ground.phase }, { on := 4, ground := Ground.phase }, { on := 5, ground := Ground.phase }, { on := 6, ground := Ground.phase }, { on := 7, ground := Ground.phase }, { on := 8, ground := Ground.phase }, { on := 9, ground := Ground.phase }, { on := 10, ground := Ground.phase }], guard := none })) rfl (fun K hK => ?_) AllReadyH.nil)
                first
                  | (have hA9 := orderA; skip)
                  | (have q0 := hX.cell (i := 0) rfl; have q1 := hX.cell (i := 1) rfl; have q2 := hX.cell (i := 2) rfl; have q3 := hX.cell (i := 3) rfl; have q4 := hX.cell (i := 4) rfl; have q5 := hX.cell (i := 5) rfl; have q6 := hX.cell (i := 6) rfl; have q7 := hX.cell (i := 7) rfl; have q8 := hX.cell (i := 8) rfl; have q9 := hX.cell (i := 9) rfl; have q10 := hX.cell (i := 10) rfl; have q11 := hX.cell (i := 11) rfl; have qf := hX.free)
                go_simp
                clear hHeld
                refine hK.out _ _ (by first | (have hA9 := orderA; exact ⟨keepA k0 _, keepA k1 _⟩) | exact ⟨cell_set12 k0 kn (.int .i64 d0) (.int .i64 d1) (.int .i64 d2) (.int .i64 d3) (.int .i64 d4) (.int .i64 d5) (.int .i64 d6) (.int .i64 d7) (.int .i64 d8) (.int .i64 d9) (.int .i64 d10) (.int .i64 d11), cell_set12 k1 kn (.int .i64 d0) (.int .i64 d1) (.int .i64 d2) (.int .i64 d3) (.int .i64 d4) (.int .i64 d5) (.int .i64 d6) (.int .i64 d7) (.int .i64 d8) (.int .i64 d9) (.int .i64 d10) (.int .i64 d11)⟩) (fun hHeld => ?_)
                clear hK K
                try simp only [Act.put, List.setIfInBounds_toArray, List.set_cons_zero, List.set_cons_succ]
                refine wpAnyH_done (by kernel_rfl) ?_ _
                clear hHeld
                have hA4 := HA2.out.below hb4 HA2.out.lt
                have hZ4 := HZ2.out.below hb4 HZ2.out.lt
                have hL4 := HLA.out.trans (hb4.mono HLA.out.size)
                have hz4 : w.heap.size + 2 ≤ w4.heap.size := by have := hb4.size; omega
                go_wp2_with fail
                go_meet
                first
                  | (have hA9 := orderA; exact ⟨w4.heap.size, rfl, Blk.new w4 _ _, hA4.alloc _, hZ4.alloc _, hL4.alloc (by omega) _, hz4⟩)
                  | exact ⟨w3.heap.size, rfl, blk_set12 hX (.int .i64 d0) (.int .i64 d1) (.int .i64 d2) (.int .i64 d3) (.int .i64 d4) (.int .i64 d5) (.int .i64 d6) (.int .i64 d7) (.int .i64 d8) (.int .i64 d9) (.int .i64 d10) (.int .i64 d11), blk_off12 hA4 (by omega) (.int .i64 d0) (.int .i64 d1) (.int .i64 d2) (.int .i64 d3) (.int .i64 d4) (.int .i64 d5) (.int .i64 d6) (.int .i64 d7) (.int .i64 d8) (.int .i64 d9) (.int .i64 d10) (.int .i64 d11), blk_off12 hZ4 (by omega) (.int .i64 d0) (.int .i64 d1) (.int .i64 d2) (.int .i64 d3) (.int .i64 d4) (.int .i64 d5) (.int .i64 d6) (.int .i64 d7) (.int .i64 d8) (.int .i64 d9) (.int .i64 d10) (.int .i64 d11), below_set12 hL4 (by omega) (.int .i64 d0) (.int .i64 d1) (.int .i64 d2) (.int .i64 d3) (.int .i64 d4) (.int .i64 d5) (.int .i64 d6) (.int .i64 d7) (.int .i64 d8) (.int .i64 d9) (.int .i64 d10) (.int .i64 d11), hz3⟩
              · go_simp
                clear hHeld
                refine hK.out _ _ ⟨keepA hc0 _, keepA hc1 _⟩ (fun hHeld => ?_)
                clear hK K
                try simp only [Act.put, List.setIfInBounds_toArray, List.set_cons_zero, List.set_cons_succ]
                refine wpAnyH_ready (rs := [9]) (by kernel_rfl) (by simp) (AllReadyH.cons (o := ({ dst := some 83, op := Op.call { callee := Callee.value (Operand.func 39), args := #[Operand.tmp 74, Operand.tmp 77, Operand.tmp 80, Operand.tmp 82], argTypes := #[3, 3, 3, 57] }, type := 25, pos := "ref.go:170", after := #[{ on := 0, ground := Ground.data }, { on := 3, ground := Ground.data }, { on := 6, ground := Ground.data }, { on := 8, ground := Ground.data }], guard := none })) rfl (fun K hK => ?_) AllReadyH.nil)
                go_simp
                refine (HMK.out _ ?b1).mono ?_
                case b1 => exact ((Below.refl _ w3).alloc (Nat.le_refl _) _).drew
                rintro e w4 ⟨rfl, hb4⟩
                have hX : Blk w4 w3.heap.size #[.int .i64 0, .int .i64 0, .int .i64 0, .int .i64 0, .int .i64 0, .int .i64 0, .int .i64 0, .int .i64 0, .int .i64 0, .int .i64 0, .int .i64 0, .int .i64 0] 25 := ((Blk.new w3 #[.int .i64 0, .int .i64 0, .int .i64 0, .int .i64 0, .int .i64 0, .int .i64 0, .int .i64 0, .int .i64 0, .int .i64 0, .int .i64 0, .int .i64 0, .int .i64 0] 25).drew).below hb4 (by simp)
                have hb4 : Below w3.heap.size w3 w4 := ((Below.refl w3.heap.size w3).alloc (Nat.le_refl _) _).drew.trans (hb4.mono (by simp))
                have kn : ¬ w3.heap.size = b := by omega
                have k0 := keepB hb4 hc0 hbl
                have k1 := keepB hb4 hc1 hbl
                go_wp2_with fail
                clear hHeld
                refine hK.out _ _ ⟨k0, k1⟩ (fun hHeld => ?_)
                clear hK K
                try simp only [Act.put, List.setIfInBounds_toArray, List.set_cons_zero, List.set_cons_succ]
                refine wpAnyH_ready (rs := [11]) (by kernel_rfl) (by simp) (AllReadyH.cons (o := ({ dst := none, op := Op.store 25 (Operand.tmp 14) (Operand.tmp 83), type := 0, pos := "ref.go:170", after := #[{ on := 10, ground := Ground.data }, { on := 9, ground := Ground.data }, { on := 9, ground := Ground.chain }, { on := 0, ground := Ground.phase }, { on := 1, ground := Ground.phase }, { on := 2, ground := Ground.phase }, { on := 3, ground := Ground.phase }, { on := 4, ground := Ground.phase }, { on := 5, ground := Ground.phase }, { on := 6, ground := Ground.phase }, { on := 7, ground := Ground.phase }, { on := 8, ground := Ground.phase }, { on := 9, ground := Ground.phase }, { on := 10, ground := Ground.phase }], guard := none })) rfl (fun K hK => ?_) AllReadyH.nil)
                first
                  | (have hA9 := orderA; skip)
                  | (have q0 := hX.cell (i := 0) rfl; have q1 := hX.cell (i := 1) rfl; have q2 := hX.cell (i := 2) rfl; have q3 := hX.cell (i := 3) rfl; have q4 := hX.cell (i := 4) rfl; have q5 := hX.cell (i := 5) rfl; have q6 := hX.cell (i := 6) rfl; have q7 := hX.cell (i := 7) rfl; have q8 := hX.cell (i := 8) rfl; have q9 := hX.cell (i := 9) rfl; have q10 := hX.cell (i := 10) rfl; have q11 := hX.cell (i := 11) rfl; have qf := hX.free)
                go_simp
                clear hHeld
                refine hK.out _ _ (by first | (have hA9 := orderA; exact ⟨keepA k0 _, keepA k1 _⟩) | exact ⟨cell_set12 k0 kn (.int .i64 d0) (.int .i64 d1) (.int .i64 d2) (.int .i64 d3) (.int .i64 d4) (.int .i64 d5) (.int .i64 d6) (.int .i64 d7) (.int .i64 d8) (.int .i64 d9) (.int .i64 d10) (.int .i64 d11), cell_set12 k1 kn (.int .i64 d0) (.int .i64 d1) (.int .i64 d2) (.int .i64 d3) (.int .i64 d4) (.int .i64 d5) (.int .i64 d6) (.int .i64 d7) (.int .i64 d8) (.int .i64 d9) (.int .i64 d10) (.int .i64 d11)⟩) (fun hHeld => ?_)
                clear hK K
                try simp only [Act.put, List.setIfInBounds_toArray, List.set_cons_zero, List.set_cons_succ]
                refine wpAnyH_done (by kernel_rfl) ?_ _
                clear hHeld
                have hA4 := HA2.out.below hb4 HA2.out.lt
                have hZ4 := HZ2.out.below hb4 HZ2.out.lt
                have hL4 := HLA.out.trans (hb4.mono HLA.out.size)
                have hz4 : w.heap.size + 2 ≤ w4.heap.size := by have := hb4.size; omega
                go_wp2_with fail
                go_meet
                first
                  | (have hA9 := orderA; exact ⟨w4.heap.size, rfl, Blk.new w4 _ _, hA4.alloc _, hZ4.alloc _, hL4.alloc (by omega) _, hz4⟩)
                  | exact ⟨w3.heap.size, rfl, blk_set12 hX (.int .i64 d0) (.int .i64 d1) (.int .i64 d2) (.int .i64 d3) (.int .i64 d4) (.int .i64 d5) (.int .i64 d6) (.int .i64 d7) (.int .i64 d8) (.int .i64 d9) (.int .i64 d10) (.int .i64 d11), blk_off12 hA4 (by omega) (.int .i64 d0) (.int .i64 d1) (.int .i64 d2) (.int .i64 d3) (.int .i64 d4) (.int .i64 d5) (.int .i64 d6) (.int .i64 d7) (.int .i64 d8) (.int .i64 d9) (.int .i64 d10) (.int .i64 d11), blk_off12 hZ4 (by omega) (.int .i64 d0) (.int .i64 d1) (.int .i64 d2) (.int .i64 d3) (.int .i64 d4) (.int .i64 d5) (.int .i64 d6) (.int .i64 d7) (.int .i64 d8) (.int .i64 d9) (.int .i64 d10) (.int .i64 d11), below_set12 hL4 (by omega) (.int .i64 d0) (.int .i64 d1) (.int .i64 d2) (.int .i64 d3) (.int .i64 d4) (.int .i64 d5) (.int .i64 d6) (.int .i64 d7) (.int .i64 d8) (.int .i64 d9) (.int .i64 d10) (.int .i64 d11), hz3⟩
            case rest =>
              obtain ⟨X, rfl, hX, hA5, hZ5, hL5, hX2⟩ := hcut
              have HX5 := Lib.hid hX
              have HA5 := Lib.hid hA5
              have HZ5 := Lib.hid hZ5
              have HL5 := Lib.hid hL5
              clear hX hA5 hZ5 hL5 hc0 hc1 HMK HPP HA2 HZ2 HLA HL2
              have hinfo := info_msg d HDL.out
              rw [HCD.out] at HCK hinfo
              obtain ⟨CDV, hCDV⟩ : ∃ c : Array Value, (#[.int .i64 d0, .int .i64 d1, .int .i64 d2, .int .i64 d3, .int .i64 d4, .int .i64 d5, .int .i64 d6, .int .i64 d7, .int .i64 d8, .int .i64 d9, .int .i64 d10, .int .i64 d11] : Array Value) = c := ⟨_, rfl⟩
              rw [hCDV] at HCK hinfo HX5
              have HCV := Lib.hid (HCD.out.trans hCDV)
              clear hCDV HCD
              go_wp2_with (with_reducible refine ev_load rfl 25 (.tmp 14) rfl X rfl 25 CDV _ HX5.out hu rfl hinfo ?_)
              refine (HCK.out _).mono ?_
              rintro e w6 ⟨rfl, hb6⟩
              have HX6 := Lib.hid (HX5.out.below hb6 HX5.out.lt)
              have HA6 := Lib.hid (HA5.out.below hb6 HA5.out.lt)
              have HZ6 := Lib.hid (HZ5.out.below hb6 HZ5.out.lt)
              have HL6 := Lib.hid (HL5.out.trans (hb6.mono HL5.out.size))
              clear hb6 HX5 HA5 HZ5 HL5
              by_cases h0 : CK = 0
              · subst h0
                have HG5 : Hid ((GD, GE) = (d, 0)) := Lib.hid (by rw [HG4.out]; simp)
                clear HG4
                go_wp2_with (first
                  | (with_reducible refine ev_load rfl 25 (.tmp 14) rfl X rfl 25 CDV _ HX6.out hu rfl hinfo ?_)
                  | (with_reducible refine ev_store rfl 25 (.tmp 2) (.tmp 88) rfl (w.heap.size) CDV rfl rfl 25 _ HA6.out hinfo (by rw [← HCV.out]; simp [cellsI_size, HDL.out, bare3_length]) (by rw [← HCV.out]; exact cellsI_one _) ?_; intro w9 hb9 hc9 hz9))
                refine bodyPost_ret (res_ct rfl _ w.heap.size 25 CDV _ rfl hb9 hu rfl hinfo) rfl ⟨by rw [(Prod.mk.inj HG5.out).1, (Prod.mk.inj HG5.out).2, HCV.out]; rfl, ?_⟩
                exact Chg.belowOf HL6.out hc9 (fun k hk => by omega) (by have := HL6.out.size; omega)
              · have hne0 : (CK == 0) = false := by rw [beq_eq_false_iff_ne]; exact h0
                have HG5 : Hid ((GD, GE) = (bare3 0 0 0, 1)) := Lib.hid (by rw [HG4.out, if_pos h0])
                clear HG4 h0
                go_wp2_with (first
                  | (with_reducible refine ev_load rfl 25 (.tmp 4) rfl (w.heap.size + 1) rfl 25 (cellsI (bare3 0 0 0)) _ HZ6.out hu rfl (info_msg _ rfl) ?_)
                  | (with_reducible refine ev_store rfl 25 (.tmp 2) (.tmp 87) rfl w.heap.size (cellsI (bare3 0 0 0)) rfl rfl 25 _ HA6.out (by kernel_rfl) rfl (cellsI_one _) ?_; intro w9 hb9 hc9 hz9))
                refine bodyPost_ret (res_ct rfl _ w.heap.size 25 (cellsI (bare3 0 0 0)) _ rfl hb9 hu rfl (info_msg _ rfl)) rfl ⟨by rw [(Prod.mk.inj HG5.out).1, (Prod.mk.inj HG5.out).2]; rfl, ?_⟩
                exact Chg.belowOf HL6.out hc9 (fun k hk => by omega) (by have := HL6.out.size; omega)
end Go.Proofs.YtcibeiehdjekiaaGreatDoor
