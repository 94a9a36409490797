/-
  The message of a kind, its ends and numbers (the reference of reeve's layer 35): the walk.
-/
import Derived.Test.YtanihdpgblkeaaaGreatDoorMsgRef
namespace Go.Proofs.YtanihdpgblkeaaaGreatDoor
open Go.RowKit
set_option linter.unusedVariables false
set_option linter.unusedSimpArgs false

/-- The places of the first letters. -/
def preM (k : Int) (i : Nat) : List Nat := ((nmM k).take i).flatMap chM
theorem mpre_succ (k : Int) (i : Nat) (c : UInt8) (h : (nmM k)[i]? = some c) : preM k (i + 1) = preM k i ++ chM c := by
  obtain ⟨hi, e⟩ := List.getElem?_eq_some_iff.1 h
  unfold preM
  rw [List.take_succ_eq_append_getElem hi, List.flatMap_append, e]
  simp
theorem mpre_le (k : Int) (i : Nat) : (preM k i).length ≤ (offsM k).length := by
  unfold preM
  rw [← nmM_offs]
  conv => rhs; rw [← List.take_append_drop i (nmM k), List.flatMap_append, List.length_append]
  omega
theorem mpre_whole (k : Int) : preM k (nmM k).length = offsM k := by unfold preM; rw [List.take_length, nmM_offs]
/-- The event behind so many letters. -/
def madeM (k f t : Int) (ns : List Int) (i : Nat) : List Int := layZ (preM k i) (ns.take (preM k i).length) (bare3 k f t)
theorem madeM_length (k f t : Int) (ns : List Int) (i : Nat) : (madeM k f t ns i).length = 12 := by unfold madeM; rw [layZ_length]; rfl
theorem madeM_succ (k f t : Int) (ns : List Int) (i : Nat) (c : UInt8) (h : (nmM k)[i]? = some c) (hn : ns.length = (offsM k).length) :
    madeM k f t ns (i + 1) = layZ (chM c) ((ns.drop (preM k i).length).take (chM c).length) (madeM k f t ns i) := by
  have h1 := mpre_le k (i + 1)
  unfold madeM
  rw [mpre_succ k i c h, List.length_append] at *
  rw [List.take_add, layZ_append]
  rw [List.length_take]; omega
theorem cell_far3m {w : World} {g : Nat} {p : Addr} {a b c x : Value} (hc : w.cell? p = some x) (h : ¬ g = p.block) :
    (((w.setCell ⟨g, 9, none⟩ a).setCell ⟨g, 10, none⟩ b).setCell ⟨g, 11, none⟩ c).drew.cell? p = some x := by
  have h1 := (World.cell?_setCell_other w ⟨g, 9, none⟩ p a (fun e => h (by rw [← e]))).trans hc
  have h2 := (World.cell?_setCell_other (w.setCell ⟨g, 9, none⟩ a) ⟨g, 10, none⟩ p b (fun e => h (by rw [← e]))).trans h1
  exact (World.cell?_setCell_other ((w.setCell ⟨g, 9, none⟩ a).setCell ⟨g, 10, none⟩ b) ⟨g, 11, none⟩ p c (fun e => h (by rw [← e]))).trans h2
set_option maxRecDepth 100000 in
set_option maxHeartbeats 3200000 in
theorem ref35_made (K F T : Int) (ns : List Int) (hns : ns.length = (offsM K).length) (v : Value) (w : World) (hv : RowV 0 w v (ns.map (Value.int .i64))) :
    Calls Tryz.prog 49 #[.int .i64 K, .int .i64 F, .int .i64 T, v] w fun e w' => e = .returned (.agg (cellsI (layZ (offsM K) ns (bare3 K F T)))) ∧ Below w.heap.size w w' := by
  have hu := Tryz.underlying25
  have HW : Hid (layZ (offsM K) ns (bare3 K F T) = madeM K F T ns (nmM K).length) := Lib.hid (by unfold madeM; rw [mpre_whole, ← hns, List.take_length])
  have HNS := Lib.hid hns
  have hn5 := offsM_length K
  rw [← hns] at hn5
  have HV := Lib.hid hv
  obtain ⟨p, cap, rfl⟩ := hv.len
  rw [List.length_map] at HV ⊢
  obtain ⟨RES, hRES⟩ : ∃ R, layZ (offsM K) ns (bare3 K F T) = R := ⟨_, rfl⟩
  rw [hRES] at HW ⊢
  clear hv hns hRES
  obtain ⟨n, hn⟩ : ∃ n, ns.length = n := ⟨_, rfl⟩
  rw [hn] at HV hn5 ⊢
  have HN := Lib.hid hn
  clear hn
  go_enter Tryz.func49, Tryz.ntmps49
  go_wp2_with fail
  obtain ⟨w1, hw1⟩ : ∃ w1, (w.alloc (.cells (cellsI (bare3 0 0 0)) 25)).alloc (.cells (cellsI (bare3 K F T)) 25) = w1 := ⟨_, rfl⟩
  show Calls _ _ _ ((w.alloc (.cells (cellsI (bare3 0 0 0)) 25)).alloc (.cells (cellsI (bare3 K F T)) 25)) _
  have A1 : Blk w1 w.heap.size (cellsI (bare3 0 0 0)) 25 := by rw [← hw1]; exact (Blk.new w _ _).alloc _
  have V1 : Blk w1 (w.heap.size + 1) (cellsI (bare3 K F T)) 25 := by rw [← hw1]; exact blk_second w _ _ _ _
  have L1 : Below w.heap.size w w1 := by rw [← hw1]; exact ((Below.refl w.heap.size w).alloc (Nat.le_refl _) _).alloc (by simp) _
  rw [hw1]
  clear hw1
  refine (ref35_names K w1).mono ?_
  rintro e w2 ⟨rfl, hb2⟩
  have A2 := Lib.hid (A1.below hb2 A1.lt)
  have V2 := Lib.hid (V1.below hb2 V1.lt)
  have L2 := Lib.hid (L1.trans (hb2.mono L1.size))
  have hz2 : w.heap.size + 1 < w2.heap.size := V2.out.lt
  clear A1 V1 L1 hb2
  have hm3 := nmM_length K
  obtain ⟨m, hm⟩ : ∃ m, (nmM K).length = m := ⟨_, rfl⟩
  have hsz : (str (nmM K)).size = m := by rw [str_size, hm]
  have hbyte : ∀ i c, (nmM K)[i]? = some c → ∀ h : i < (str (nmM K)).size, (((str (nmM K))[i]'h).toNat : Int) = (c.toNat : Int) := by
    intro i c hc h
    obtain ⟨hi, e⟩ := List.getElem?_eq_some_iff.1 hc
    show (((nmM K)[i]'hi).toNat : Int) = _
    rw [e]
  obtain ⟨S, hS⟩ : ∃ S, str (nmM K) = S := ⟨_, rfl⟩
  rw [hm] at hm3 HW
  rw [hS] at hsz hbyte ⊢
  have HM := Lib.hid hm
  have HSZ := Lib.hid hsz
  have HBY := Lib.hid hbyte
  have hm63 : S.size ≤ 3 := by omega
  clear hm hS hbyte
  go_wp2_with fail
  go_loopg [11, 12] m (fun gg s7 s8 wr => ∃ i : Nat, i ≤ m ∧ gg = m - i ∧ s8 = .int .i64 i ∧ s7 = .int .i64 ((preM K i).length : Nat) ∧ Hid (Blk wr (w.heap.size + 1) (cellsI (madeM K F T ns i)) 25) ∧ Hid (Chg (fun k => k = w.heap.size + 1) w2 wr))
  case atStart => exact ⟨0, by omega, rfl, rfl, rfl, V2, Lib.hid (Chg.refl _ _)⟩
  case round =>
    clear V2
    obtain ⟨i, hi, hg, rfl, rfl, HX, HC⟩ := hrel
    have hg := hg.symm
    subst hg
    have hXl := madeM_length K F T ns i
    by_cases hlt : i < m
    · have hiS : i < S.size := by omega
      have hi0 : (0 : Int) ≤ (i : Int) := by omega
      obtain ⟨c, hc⟩ : ∃ c, (nmM K)[i]? = some c := ⟨_, List.getElem?_eq_getElem (by rw [HM.out]; exact hlt)⟩
      have hcc := nmM_mem K c (List.mem_of_getElem? hc)
      have hby := HBY.out i c hc hiS
      have hms := madeM_succ K F T ns i c hc HNS.out
      have hpl := mpre_le K (i + 1)
      have hps := mpre_succ K i c hc
      rw [hps, List.length_append, ← HNS.out, HN.out] at hpl
      have hpl2 : (preM K (i + 1)).length = (preM K i).length + (chM c).length := by rw [hps, List.length_append]
      have HX' := HX
      obtain ⟨D, hD⟩ : ∃ D, madeM K F T ns i = D := ⟨_, rfl⟩
      rw [hD] at hms HX hXl
      obtain ⟨q, hq⟩ : ∃ q, (preM K i).length = q := ⟨_, rfl⟩
      rw [hq] at hms hpl hpl2 ⊢
      have hcell : ∀ j, j < n → ∃ (b off cp : Nat), p = some ⟨b, off, none⟩ ∧ b < w.heap.size ∧ wr.cell? ⟨b, off + j, none⟩ = some (.int .i64 (fld ns j)) := by
        intro j hj
        obtain ⟨b, off, cp, e1, _, hb, hcj⟩ := HV.out.at (j := j) (by rw [List.length_map, HN.out]; exact hj)
        injection e1 with e2 e3 e4
        refine ⟨b, off, cp, e2, hb, ?_⟩
        have hj2 : j < ns.length := by rw [HN.out]; exact hj
        have k2 := keepB (L2.out) hcj hb
        have k3 := (HC.out.cell (p := ⟨b, off + j, none⟩) (by have := L2.out.size; show b < _; omega) (by show ¬ b = _; omega)).trans k2
        rw [k3]
        simp [fld, hj2]
      have HPL2 := Lib.hid hpl2
      have HMS := Lib.hid hms
      clear hq hD hps hms hpl2 HX'
      rcases hcc with rfl | rfl | rfl | rfl | rfl | rfl | rfl
      · have hpl : q + 1 ≤ n := hpl
        obtain ⟨b, off, cp, rfl, _, k0⟩ := hcell q (by omega)
        have k1 := HX.out.cell (cellsI_at (l := D) (i := 3) (by omega))
        have k2 := HX.out.free 3
        have hqI : (q : Int) < (n : Int) := by omega
        have hq0 : (0 : Int) ≤ (q : Int) := by omega
        have hstep : Hid (madeM K F T ns (i + 1) = D.set 3 (fld ns q)) := Lib.hid (by rw [HMS.out]; show layZ [3] _ D = _; rw [show (chM 69).length = 1 from rfl, drop_one ns q (by rw [HN.out]; omega)]; rfl)
        clear hcell HMS
        go_wp2_with fail
        go_roundg (m - (i + 1))
        case measure => omega
        case rel =>
          refine ⟨i + 1, by omega, rfl, by go_num, by rw [HPL2.out]; show _ = Value.int .i64 ((q + 1 : Nat) : Int); go_num, Lib.hid ?_, Lib.hid (HC.out.set (by rfl) _)⟩
          rw [hstep.out, ← cellsI_set]; exact HX.out.set 3 _
      · have hpl : q + 1 ≤ n := hpl
        obtain ⟨b, off, cp, rfl, _, k0⟩ := hcell q (by omega)
        have k1 := HX.out.cell (cellsI_at (l := D) (i := 4) (by omega))
        have k2 := HX.out.free 4
        have hqI : (q : Int) < (n : Int) := by omega
        have hq0 : (0 : Int) ≤ (q : Int) := by omega
        have hstep : Hid (madeM K F T ns (i + 1) = D.set 4 (fld ns q)) := Lib.hid (by rw [HMS.out]; show layZ [4] _ D = _; rw [show (chM 73).length = 1 from rfl, drop_one ns q (by rw [HN.out]; omega)]; rfl)
        clear hcell HMS
        go_wp2_with fail
        go_roundg (m - (i + 1))
        case measure => omega
        case rel =>
          refine ⟨i + 1, by omega, rfl, by go_num, by rw [HPL2.out]; show _ = Value.int .i64 ((q + 1 : Nat) : Int); go_num, Lib.hid ?_, Lib.hid (HC.out.set (by rfl) _)⟩
          rw [hstep.out, ← cellsI_set]; exact HX.out.set 4 _
      · have hpl : q + 1 ≤ n := hpl
        obtain ⟨b, off, cp, rfl, _, k0⟩ := hcell q (by omega)
        have k1 := HX.out.cell (cellsI_at (l := D) (i := 5) (by omega))
        have k2 := HX.out.free 5
        have hqI : (q : Int) < (n : Int) := by omega
        have hq0 : (0 : Int) ≤ (q : Int) := by omega
        have hstep : Hid (madeM K F T ns (i + 1) = D.set 5 (fld ns q)) := Lib.hid (by rw [HMS.out]; show layZ [5] _ D = _; rw [show (chM 74).length = 1 from rfl, drop_one ns q (by rw [HN.out]; omega)]; rfl)
        clear hcell HMS
        go_wp2_with fail
        go_roundg (m - (i + 1))
        case measure => omega
        case rel =>
          refine ⟨i + 1, by omega, rfl, by go_num, by rw [HPL2.out]; show _ = Value.int .i64 ((q + 1 : Nat) : Int); go_num, Lib.hid ?_, Lib.hid (HC.out.set (by rfl) _)⟩
          rw [hstep.out, ← cellsI_set]; exact HX.out.set 5 _
      · have hpl : q + 1 ≤ n := hpl
        obtain ⟨b, off, cp, rfl, _, k0⟩ := hcell q (by omega)
        have k1 := HX.out.cell (cellsI_at (l := D) (i := 6) (by omega))
        have k2 := HX.out.free 6
        have hqI : (q : Int) < (n : Int) := by omega
        have hq0 : (0 : Int) ≤ (q : Int) := by omega
        have hstep : Hid (madeM K F T ns (i + 1) = D.set 6 (fld ns q)) := Lib.hid (by rw [HMS.out]; show layZ [6] _ D = _; rw [show (chM 84).length = 1 from rfl, drop_one ns q (by rw [HN.out]; omega)]; rfl)
        clear hcell HMS
        go_wp2_with fail
        go_roundg (m - (i + 1))
        case measure => omega
        case rel =>
          refine ⟨i + 1, by omega, rfl, by go_num, by rw [HPL2.out]; show _ = Value.int .i64 ((q + 1 : Nat) : Int); go_num, Lib.hid ?_, Lib.hid (HC.out.set (by rfl) _)⟩
          rw [hstep.out, ← cellsI_set]; exact HX.out.set 6 _
      · have hpl : q + 1 ≤ n := hpl
        obtain ⟨b, off, cp, rfl, _, k0⟩ := hcell q (by omega)
        have k1 := HX.out.cell (cellsI_at (l := D) (i := 7) (by omega))
        have k2 := HX.out.free 7
        have hqI : (q : Int) < (n : Int) := by omega
        have hq0 : (0 : Int) ≤ (q : Int) := by omega
        have hstep : Hid (madeM K F T ns (i + 1) = D.set 7 (fld ns q)) := Lib.hid (by rw [HMS.out]; show layZ [7] _ D = _; rw [show (chM 80).length = 1 from rfl, drop_one ns q (by rw [HN.out]; omega)]; rfl)
        clear hcell HMS
        go_wp2_with fail
        go_roundg (m - (i + 1))
        case measure => omega
        case rel =>
          refine ⟨i + 1, by omega, rfl, by go_num, by rw [HPL2.out]; show _ = Value.int .i64 ((q + 1 : Nat) : Int); go_num, Lib.hid ?_, Lib.hid (HC.out.set (by rfl) _)⟩
          rw [hstep.out, ← cellsI_set]; exact HX.out.set 7 _
      · have hpl : q + 1 ≤ n := hpl
        obtain ⟨b, off, cp, rfl, _, k0⟩ := hcell q (by omega)
        have k1 := HX.out.cell (cellsI_at (l := D) (i := 8) (by omega))
        have k2 := HX.out.free 8
        have hqI : (q : Int) < (n : Int) := by omega
        have hq0 : (0 : Int) ≤ (q : Int) := by omega
        have hstep : Hid (madeM K F T ns (i + 1) = D.set 8 (fld ns q)) := Lib.hid (by rw [HMS.out]; show layZ [8] _ D = _; rw [show (chM 67).length = 1 from rfl, drop_one ns q (by rw [HN.out]; omega)]; rfl)
        clear hcell HMS
        go_wp2_with fail
        go_roundg (m - (i + 1))
        case measure => omega
        case rel =>
          refine ⟨i + 1, by omega, rfl, by go_num, by rw [HPL2.out]; show _ = Value.int .i64 ((q + 1 : Nat) : Int); go_num, Lib.hid ?_, Lib.hid (HC.out.set (by rfl) _)⟩
          rw [hstep.out, ← cellsI_set]; exact HX.out.set 8 _
      · have hpl : q + 3 ≤ n := hpl
        obtain ⟨b, off, cp, hp1, hbl, k0⟩ := hcell q (by omega)
        obtain ⟨b', off', cp', hp2, _, k1⟩ := hcell (q + 1) (by omega)
        obtain ⟨b'', off'', cp'', hp3, _, k2⟩ := hcell (q + 2) (by omega)
        subst hp1
        injection hp2 with hp2
        injection hp2 with h1 h2 _
        injection hp3 with hp3
        injection hp3 with h3 h4 _
        subst h1 h2 h3 h4
        have f5 := HX.out.cell (cellsI_at (l := D) (i := 9) (by omega))
        have f6 := HX.out.cell (cellsI_at (l := D) (i := 10) (by omega))
        have f7 := HX.out.cell (cellsI_at (l := D) (i := 11) (by omega))
        have e5 := HX.out.free 9
        have e6 := HX.out.free 10
        have e7 := HX.out.free 11
        have hqI : (q : Int) + 2 < (n : Int) := by omega
        have hq0 : (0 : Int) ≤ (q : Int) := by omega
        have hw1 : IntKind.i64.wrap ((q : Int) + 1) = (q : Int) + 1 := by rw [IntKind.wrap_i64]; omega
        have hw2 : IntKind.i64.wrap ((q : Int) + 2) = (q : Int) + 2 := by rw [IntKind.wrap_i64]; omega
        have hn1 : ((q : Int) + 1).toNat = q + 1 := by omega
        have hn2 : ((q : Int) + 2).toNat = q + 2 := by omega
        have hb0 : (q : Int) < (n : Int) := by omega
        have hb1 : (q : Int) + 1 < (n : Int) := by omega
        have hb2 : (0 : Int) ≤ (q : Int) + 1 := by omega
        have hb3 : (0 : Int) ≤ (q : Int) + 2 := by omega
        have hstep : Hid (madeM K F T ns (i + 1) = ((D.set 9 (fld ns q)).set 10 (fld ns (q + 1))).set 11 (fld ns (q + 2))) := Lib.hid (by rw [HMS.out]; show layZ [9, 10, 11] _ D = _; rw [show (chM 82).length = 3 from rfl, drop_three ns q (by rw [HN.out]; omega)]; rfl)
        have HCELL := Lib.hid hcell
        clear hcell HMS
        go_upto_region 8 with fail
        go_region_held3 (fun w' => w'.cell? ⟨b, off + q, none⟩ = some (.int .i64 (fld ns q)) ∧ w'.cell? ⟨b, off + (q + 1), none⟩ = some (.int .i64 (fld ns (q + 1))) ∧ w'.cell? ⟨b, off + (q + 2), none⟩ = some (.int .i64 (fld ns (q + 2)))) (first | (go_keep; done) | exact ⟨cell_far3m k0 (by show ¬ w.heap.size + 1 = b; omega), cell_far3m k1 (by show ¬ w.heap.size + 1 = b; omega), cell_far3m k2 (by show ¬ w.heap.size + 1 = b; omega)⟩) (fail)
        go_wp2_with fail
        go_roundg (m - (i + 1))
        case measure => omega
        case rel =>
          refine ⟨i + 1, by omega, rfl, by go_num, by rw [HPL2.out]; show _ = Value.int .i64 ((q + 3 : Nat) : Int); go_num, Lib.hid ?_, Lib.hid ((((HC.out.set (by rfl) _).set (by rfl) _).set (by rfl) _).drew)⟩
          rw [hstep.out, ← cellsI_set, ← cellsI_set, ← cellsI_set]
          exact ((HX.out.set 9 _).set 10 _).set 11 _
    · obtain rfl : i = m := by omega
      clear hXl
      go_wp2_with (first
        | (with_reducible refine ev_load rfl 25 (.tmp 9) rfl (w.heap.size + 1) rfl 25 (cellsI (madeM K F T ns i)) _ HX.out hu rfl (info_msg _ (madeM_length K F T ns i)) ?_)
        | (with_reducible refine ev_store rfl 25 (.tmp 8) (.tmp 90) rfl w.heap.size (cellsI (madeM K F T ns i)) rfl rfl 25 _ (A2.out.chg HC.out (by omega)) (info_msg _ (madeM_length K F T ns i)) (by simp [cellsI_size, madeM_length, bare3_length]) (cellsI_one _) ?_; intro w9 hb9 hc9 hz9))
      refine bodyPost_ret (res_c rfl _ w.heap.size 25 (cellsI (madeM K F T ns i)) _ rfl hb9 hu rfl (info_msg _ (madeM_length K F T ns i))) rfl ⟨by rw [HW.out], ?_⟩
      have b1 := Chg.belowOf L2.out HC.out (fun k hk => by omega) L2.out.size
      exact Chg.belowOf b1 hc9 (fun k hk => by omega) b1.size
end Go.Proofs.YtanihdpgblkeaaaGreatDoor
