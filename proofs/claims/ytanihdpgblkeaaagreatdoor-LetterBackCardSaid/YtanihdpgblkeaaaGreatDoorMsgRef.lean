/-
  The reference's places, letters and numbers of a message (reeve's layer 35): the walks.
-/
import Derived.Test.YtanihdpgblkeaaaGreatDoorMsgCheck
import Derived.Test.YtanihdpgblkeaaaGreatDoorRefAll
namespace Go.Proofs.YtanihdpgblkeaaaGreatDoor
open Go.RowKit
set_option linter.unusedVariables false
set_option linter.unusedSimpArgs false

theorem ref35_place (n : Int) (w : World) : Calls Tryz.prog 65 #[.int .i64 n] w fun e w' => e = .returned (.int .i64 (placeI n)) ∧ w = w' := by
  rcases place_cases n with ⟨e, h, h'⟩ | ⟨e, h, h'⟩ | ⟨e, h⟩ | ⟨e, h, h', h''⟩
  · rw [e]
    clear e
    go_enter Tryz.func65, Tryz.ntmps65
    go_wp2_with fail
    go_ret
    exact ⟨rfl, rfl⟩
  · rw [e]
    have h0 : 0 ≤ n := by omega
    have h4 : 4 < n := by omega
    clear e
    go_enter Tryz.func65, Tryz.ntmps65
    go_wp2_with fail
    go_ret
    exact ⟨rfl, rfl⟩
  · rw [e]
    subst h
    clear e
    go_enter Tryz.func65, Tryz.ntmps65
    go_wp2_with fail
    go_ret
    exact ⟨rfl, rfl⟩
  · rw [e]
    have hne : (n == 200) = false := by rw [beq_eq_false_iff_ne]; exact h''
    by_cases a : n < 0
    · have a2 : n < 100 := by omega
      clear e h h' h''
      go_enter Tryz.func65, Tryz.ntmps65
      go_wp2_with fail
      go_ret
      exact ⟨rfl, rfl⟩
    · have a1 : 0 ≤ n := by omega
      have a2 : 4 < n := by omega
      by_cases b : n < 100
      · clear e h h' h'' a
        go_enter Tryz.func65, Tryz.ntmps65
        go_wp2_with fail
        go_ret
        exact ⟨rfl, rfl⟩
      · have b1 : 100 ≤ n := by omega
        have b2 : 115 < n := by omega
        clear e h h' h'' a b
        go_enter Tryz.func65, Tryz.ntmps65
        go_wp2_with fail
        go_ret
        exact ⟨rfl, rfl⟩
theorem ref35_in (n a b : Int) (w : World) : Calls Tryz.prog 66 #[.int .i64 n, .int .i64 a, .int .i64 b] w fun e w' => e = .returned (.bool (inR n a b)) ∧ w = w' := by
  by_cases h1 : n < a
  · rw [inR_no (.inl h1)]
    go_enter Tryz.func66, Tryz.ntmps66
    go_wp2_with fail
    go_ret
    exact ⟨rfl, rfl⟩
  · have h1' : a ≤ n := by omega
    by_cases h2 : n ≤ b
    · rw [inR_yes h1' h2]
      go_enter Tryz.func66, Tryz.ntmps66
      go_wp2_with fail
      go_ret
      exact ⟨rfl, rfl⟩
    · have h2' : b < n := by omega
      rw [inR_no (.inr h2')]
      go_enter Tryz.func66, Tryz.ntmps66
      go_wp2_with fail
      go_ret
      exact ⟨rfl, rfl⟩
set_option maxRecDepth 100000 in
set_option maxHeartbeats 1600000 in
theorem ref35_ends (k : Int) (hk : 1 ≤ k ∧ k ≤ 8) (w : World) : Calls Tryz.prog 64 #[.int .i64 k] w fun e w' => e = .returned (.tuple #[.int .i64 (waysF k).1, .int .i64 (waysF k).2]) ∧ Below w.heap.size w w' := by
  have hc : k = 1 ∨ k = 2 ∨ k = 3 ∨ k = 4 ∨ k = 5 ∨ k = 6 ∨ k = 7 ∨ k = 8 := by omega
  clear hk
  rcases hc with rfl | rfl | rfl | rfl | rfl | rfl | rfl | rfl
  · go_enter Tryz.func64, Tryz.ntmps64
    go_upto_region 3 with fail
    go_region_held3 (fun w' => w'.cell? ⟨w.heap.size, 1, none⟩ = some (.int .i64 2) ∧ w'.cell? ⟨w.heap.size + 1, 1, none⟩ = some (.int .i64 1)) (go_keep) (fail)
    go_wp2_with fail
    go_ret2
    exact ⟨rfl, ((((Below.refl _ _).alloc (Nat.le_refl _) _).alloc (by simp) _).drew)⟩
  · go_enter Tryz.func64, Tryz.ntmps64
    go_upto_region 3 with fail
    go_region_held3 (fun w' => w'.cell? ⟨w.heap.size, 2, none⟩ = some (.int .i64 1) ∧ w'.cell? ⟨w.heap.size + 1, 2, none⟩ = some (.int .i64 2)) (go_keep) (fail)
    go_wp2_with fail
    go_ret2
    exact ⟨rfl, ((((Below.refl _ _).alloc (Nat.le_refl _) _).alloc (by simp) _).drew)⟩
  · go_enter Tryz.func64, Tryz.ntmps64
    go_upto_region 3 with fail
    go_region_held3 (fun w' => w'.cell? ⟨w.heap.size, 3, none⟩ = some (.int .i64 1) ∧ w'.cell? ⟨w.heap.size + 1, 3, none⟩ = some (.int .i64 2)) (go_keep) (fail)
    go_wp2_with fail
    go_ret2
    exact ⟨rfl, ((((Below.refl _ _).alloc (Nat.le_refl _) _).alloc (by simp) _).drew)⟩
  · go_enter Tryz.func64, Tryz.ntmps64
    go_upto_region 3 with fail
    go_region_held3 (fun w' => w'.cell? ⟨w.heap.size, 4, none⟩ = some (.int .i64 1) ∧ w'.cell? ⟨w.heap.size + 1, 4, none⟩ = some (.int .i64 2)) (go_keep) (fail)
    go_wp2_with fail
    go_ret2
    exact ⟨rfl, ((((Below.refl _ _).alloc (Nat.le_refl _) _).alloc (by simp) _).drew)⟩
  · go_enter Tryz.func64, Tryz.ntmps64
    go_upto_region 3 with fail
    go_region_held3 (fun w' => w'.cell? ⟨w.heap.size, 5, none⟩ = some (.int .i64 2) ∧ w'.cell? ⟨w.heap.size + 1, 5, none⟩ = some (.int .i64 1)) (go_keep) (fail)
    go_wp2_with fail
    go_ret2
    exact ⟨rfl, ((((Below.refl _ _).alloc (Nat.le_refl _) _).alloc (by simp) _).drew)⟩
  · go_enter Tryz.func64, Tryz.ntmps64
    go_upto_region 3 with fail
    go_region_held3 (fun w' => w'.cell? ⟨w.heap.size, 6, none⟩ = some (.int .i64 3) ∧ w'.cell? ⟨w.heap.size + 1, 6, none⟩ = some (.int .i64 1)) (go_keep) (fail)
    go_wp2_with fail
    go_ret2
    exact ⟨rfl, ((((Below.refl _ _).alloc (Nat.le_refl _) _).alloc (by simp) _).drew)⟩
  · go_enter Tryz.func64, Tryz.ntmps64
    go_upto_region 3 with fail
    go_region_held3 (fun w' => w'.cell? ⟨w.heap.size, 7, none⟩ = some (.int .i64 3) ∧ w'.cell? ⟨w.heap.size + 1, 7, none⟩ = some (.int .i64 1)) (go_keep) (fail)
    go_wp2_with fail
    go_ret2
    exact ⟨rfl, ((((Below.refl _ _).alloc (Nat.le_refl _) _).alloc (by simp) _).drew)⟩
  · go_enter Tryz.func64, Tryz.ntmps64
    go_upto_region 3 with fail
    go_region_held3 (fun w' => w'.cell? ⟨w.heap.size, 8, none⟩ = some (.int .i64 1) ∧ w'.cell? ⟨w.heap.size + 1, 8, none⟩ = some (.int .i64 3)) (go_keep) (fail)
    go_wp2_with fail
    go_ret2
    exact ⟨rfl, ((((Below.refl _ _).alloc (Nat.le_refl _) _).alloc (by simp) _).drew)⟩
/-- The letters of what a kind names. -/
def nmM (k : Int) : List UInt8 :=
  if k = 1 then [73, 84, 82] else if k = 2 then [69, 73, 84] else if k = 3 then [69, 73, 74] else if k = 4 then [69, 73, 74] else if k = 5 then [73, 74] else if k = 6 then [74, 80, 82] else if k = 7 then [74] else if k = 8 then [74, 67] else []
/-- What a letter names. -/
def chM (c : UInt8) : List Nat := if c = 69 then [3] else if c = 73 then [4] else if c = 74 then [5] else if c = 84 then [6] else if c = 80 then [7] else if c = 67 then [8] else [9, 10, 11]
theorem nmM_none {k : Int} (h : k ≠ 1 ∧ k ≠ 2 ∧ k ≠ 3 ∧ k ≠ 4 ∧ k ≠ 5 ∧ k ≠ 6 ∧ k ≠ 7 ∧ k ≠ 8) : nmM k = [] := by
  unfold nmM
  rw [if_neg (by omega), if_neg (by omega), if_neg (by omega), if_neg (by omega), if_neg (by omega), if_neg (by omega), if_neg (by omega), if_neg (by omega)]
theorem nmM_offs (k : Int) : (nmM k).flatMap chM = offsM k := by
  rcases mkind_cases k with rfl | rfl | rfl | rfl | rfl | rfl | rfl | rfl | h
  all_goals first | rfl | (rw [nmM_none h, offsM_none h]; rfl)
theorem nmM_nil (k : Int) : nmM k = [] ↔ offsM k = [] := by
  rcases mkind_cases k with rfl | rfl | rfl | rfl | rfl | rfl | rfl | rfl | h
  all_goals first | (rw [nmM_none h, offsM_none h]; simp; done) | (simp [nmM, offsM])
theorem nmM_length (k : Int) : (nmM k).length ≤ 3 := by
  rcases mkind_cases k with rfl | rfl | rfl | rfl | rfl | rfl | rfl | rfl | h
  all_goals first | decide | (rw [nmM_none h]; simp)
theorem nmM_mem (k : Int) (c : UInt8) (h : c ∈ nmM k) : c = 69 ∨ c = 73 ∨ c = 74 ∨ c = 84 ∨ c = 80 ∨ c = 67 ∨ c = 82 := by
  rcases mkind_cases k with rfl | rfl | rfl | rfl | rfl | rfl | rfl | rfl | hk
  all_goals first | (rw [nmM_none hk] at h; simp at h; done) | (simp [nmM] at h; rcases h with h | h | h <;> simp [h]; done) | (simp [nmM] at h; rcases h with h | h <;> simp [h]; done) | (simp [nmM] at h; simp [h]; done)
set_option maxRecDepth 100000 in
set_option maxHeartbeats 800000 in
theorem ref35_names (k : Int) (w : World) : Calls Tryz.prog 63 #[.int .i64 k] w fun e w' => e = .returned (.string (str (nmM k))) ∧ Below w.heap.size w w' := by
  rcases mkind_cases k with rfl | rfl | rfl | rfl | rfl | rfl | rfl | rfl | h
  iterate 8
    · go_enter Tryz.func63, Tryz.ntmps63
      go_wp2_with fail
      go_ret
      exact ⟨rfl, (Below.refl _ _).alloc (Nat.le_refl _) _⟩
  rw [nmM_none h]
  by_cases h1 : k < 1
  · clear h
    go_enter Tryz.func63, Tryz.ntmps63
    go_wp2_with fail
    go_ret
    exact ⟨rfl, (Below.refl _ _).alloc (Nat.le_refl _) _⟩
  · have h2 : 8 < k := by omega
    have h1' : 1 ≤ k := by omega
    clear h h1
    go_enter Tryz.func63, Tryz.ntmps63
    go_wp2_with fail
    go_ret
    exact ⟨rfl, (Below.refl _ _).alloc (Nat.le_refl _) _⟩
/-- The numbers that an event's kind names. -/
def numsM (l : List Int) : List Int := (offsM (fld l 0)).map (fld l)
theorem mpart_le (k : Int) (i : Nat) : (((nmM k).take i).flatMap chM).length ≤ 5 := by
  have h := offsM_length k
  rw [← nmM_offs, ← List.take_append_drop i (nmM k), List.flatMap_append, List.length_append] at h
  omega
theorem mpart_succ (l : List Int) (k : Int) (i : Nat) (c : UInt8) (h : (nmM k)[i]? = some c) : (((nmM k).take (i + 1)).flatMap chM).map (fld l) = (((nmM k).take i).flatMap chM).map (fld l) ++ (chM c).map (fld l) := by
  obtain ⟨hi, e⟩ := List.getElem?_eq_some_iff.1 h
  rw [List.take_succ_eq_append_getElem hi, List.flatMap_append, List.map_append, e]
  simp
set_option maxRecDepth 100000 in
set_option maxHeartbeats 1600000 in
theorem ref35_numbers (l : List Int) (hl : l.length = 12) (w : World) :
    Calls Tryz.prog 40 #[.agg (cellsI l)] w fun e w' => ∃ v, e = .returned v ∧ OwnI w.heap.size w' v (numsM l) ∧ Below w.heap.size w w' := by
  obtain ⟨K, hK⟩ : ∃ K, fld l 0 = K := ⟨_, rfl⟩
  have HCC := Lib.hid (fun i (h : i < 12) => show (cellsI l)[i]? = some (.int .i64 (fld l i)) from cellsI_at (by omega))
  have HF : Hid (numsM l = ((nmM K).flatMap chM).map (fld l)) := Lib.hid (by unfold numsM; rw [nmM_offs, hK])
  have HK := Lib.hid hK
  clear hK
  obtain ⟨C, hC⟩ : ∃ C, cellsI l = C := ⟨_, rfl⟩
  rw [hC] at HCC ⊢
  clear hC
  obtain ⟨W, hW⟩ : ∃ W, w.alloc (.cells C 25) = W := ⟨_, rfl⟩
  have hB : Blk W w.heap.size C 25 := by rw [← hW]; exact Blk.new w C _
  have hWs : W.heap.size = w.heap.size + 1 := by rw [← hW]; simp
  have HBL : Hid (Below w.heap.size w W) := Lib.hid (by rw [← hW]; exact (Below.refl w.heap.size w).alloc (Nat.le_refl _) _)
  have HB := Lib.hid hB
  have HWS := Lib.hid hWs
  have HW := Lib.hid hW
  clear hB hWs hW
  have hc0 : W.cell? ⟨w.heap.size, 0, none⟩ = some (.int .i64 K) := HB.out.cell (by rw [← HK.out]; exact HCC.out 0 (by omega))
  go_enter Tryz.func40, Tryz.ntmps40
  go_upto_region 1 with fail
  rw [HW.out]
  go_wp2_with fail
  refine (ref35_names K _).mono ?_
  rintro e w1 ⟨rfl, hb1⟩
  have L1 : Hid (Below (w.heap.size + 1) W w1) := Lib.hid (hb1.mono (by rw [HWS.out]; exact Nat.le_refl _))
  have hm3 := nmM_length K
  obtain ⟨m, hm⟩ : ∃ m, (nmM K).length = m := ⟨_, rfl⟩
  have hsz : (str (nmM K)).size = m := by rw [str_size, hm]
  have hbyte : ∀ i c, (nmM K)[i]? = some c → ∀ h : i < (str (nmM K)).size, (((str (nmM K))[i]'h).toNat : Int) = (c.toNat : Int) := by
    intro i c hc h
    obtain ⟨hi, e⟩ := List.getElem?_eq_some_iff.1 hc
    show (((nmM K)[i]'hi).toNat : Int) = _
    rw [e]
  obtain ⟨S, hS⟩ : ∃ S, str (nmM K) = S := ⟨_, rfl⟩
  rw [hm] at hm3
  rw [hS] at hsz hbyte ⊢
  have HM := Lib.hid hm
  have HSZ := Lib.hid hsz
  have HBY := Lib.hid hbyte
  have hm63 : S.size ≤ 3 := by omega
  clear hm hS hb1 hc0 hbyte
  go_wp2_with fail
  go_loopg [3, 5] m (fun gg s3 s5 wr => ∃ i : Nat, i ≤ m ∧ gg = m - i ∧ s5 = .int .i64 i ∧ Hid (OwnI (w.heap.size + 1) wr s3 ((((nmM K).take i).flatMap chM).map (fld l))) ∧ Hid (Below (w.heap.size + 1) W wr))
  case atStart => exact ⟨0, by omega, rfl, rfl, Lib.hid (OwnI.nil _ _), L1⟩
  case round =>
    clear L1
    obtain ⟨i, hi, hg, rfl, HO, HL⟩ := hrel
    have hg := hg.symm
    subst hg
    by_cases hlt : i < m
    · have hiS : i < S.size := by omega
      have hi0 : (0 : Int) ≤ (i : Int) := by omega
      obtain ⟨c, hc⟩ : ∃ c, (nmM K)[i]? = some c := ⟨_, List.getElem?_eq_getElem (by rw [HM.out]; exact hlt)⟩
      have hcc := nmM_mem K c (List.mem_of_getElem? hc)
      have hby := HBY.out i c hc hiS
      have hps := mpart_succ l K i c hc
      have hpl := mpart_le K i
      rw [← List.length_map (f := fld l)] at hpl
      generalize (((nmM K).take i).flatMap chM).map (fld l) = P at HO hps hpl
      have hLs : w.heap.size + 1 ≤ wr.heap.size := by have := HL.out.size; rw [HWS.out] at this; exact this
      go_upto_region 10 with fail
      clear hby hc
      rcases hcc with rfl | rfl | rfl | rfl | rfl | rfl | rfl
      · have k0 := (HB.out.below HL.out (by omega)).cell (HCC.out 3 (by omega))
        go_wp2_with (with_reducible refine ev_appI rfl (.tmp 38) (.tmp 41) rfl (w.heap.size + 1) W _ _ rfl (HO.out.below ((Below.refl wr.heap.size wr).alloc (Nat.le_refl _) _) (Nat.le_refl _)) (HL.out.alloc (by omega) _) (by simp; omega) wr.heap.size (fld l 3) rfl ((Blk.new wr _ _).cell rfl) (by omega) ?_; intro v2 w2 how2 hlw2 hgw2)
        have HO2 : Hid (OwnI (w.heap.size + 1) w2 v2 ((((nmM K).take (i + 1)).flatMap chM).map (fld l))) := Lib.hid (by rw [hps]; exact how2)
        have HL2 := Lib.hid hlw2
        clear how2 hlw2 hgw2 k0
        go_wp2_with fail
        go_roundg (m - (i + 1))
        case measure => omega
        case rel => exact ⟨i + 1, by omega, rfl, by go_num, HO2, HL2⟩
      · have k0 := (HB.out.below HL.out (by omega)).cell (HCC.out 4 (by omega))
        go_wp2_with (with_reducible refine ev_appI rfl (.tmp 45) (.tmp 48) rfl (w.heap.size + 1) W _ _ rfl (HO.out.below ((Below.refl wr.heap.size wr).alloc (Nat.le_refl _) _) (Nat.le_refl _)) (HL.out.alloc (by omega) _) (by simp; omega) wr.heap.size (fld l 4) rfl ((Blk.new wr _ _).cell rfl) (by omega) ?_; intro v2 w2 how2 hlw2 hgw2)
        have HO2 : Hid (OwnI (w.heap.size + 1) w2 v2 ((((nmM K).take (i + 1)).flatMap chM).map (fld l))) := Lib.hid (by rw [hps]; exact how2)
        have HL2 := Lib.hid hlw2
        clear how2 hlw2 hgw2 k0
        go_wp2_with fail
        go_roundg (m - (i + 1))
        case measure => omega
        case rel => exact ⟨i + 1, by omega, rfl, by go_num, HO2, HL2⟩
      · have k0 := (HB.out.below HL.out (by omega)).cell (HCC.out 5 (by omega))
        go_wp2_with (with_reducible refine ev_appI rfl (.tmp 52) (.tmp 55) rfl (w.heap.size + 1) W _ _ rfl (HO.out.below ((Below.refl wr.heap.size wr).alloc (Nat.le_refl _) _) (Nat.le_refl _)) (HL.out.alloc (by omega) _) (by simp; omega) wr.heap.size (fld l 5) rfl ((Blk.new wr _ _).cell rfl) (by omega) ?_; intro v2 w2 how2 hlw2 hgw2)
        have HO2 : Hid (OwnI (w.heap.size + 1) w2 v2 ((((nmM K).take (i + 1)).flatMap chM).map (fld l))) := Lib.hid (by rw [hps]; exact how2)
        have HL2 := Lib.hid hlw2
        clear how2 hlw2 hgw2 k0
        go_wp2_with fail
        go_roundg (m - (i + 1))
        case measure => omega
        case rel => exact ⟨i + 1, by omega, rfl, by go_num, HO2, HL2⟩
      · have k0 := (HB.out.below HL.out (by omega)).cell (HCC.out 6 (by omega))
        go_wp2_with (with_reducible refine ev_appI rfl (.tmp 59) (.tmp 62) rfl (w.heap.size + 1) W _ _ rfl (HO.out.below ((Below.refl wr.heap.size wr).alloc (Nat.le_refl _) _) (Nat.le_refl _)) (HL.out.alloc (by omega) _) (by simp; omega) wr.heap.size (fld l 6) rfl ((Blk.new wr _ _).cell rfl) (by omega) ?_; intro v2 w2 how2 hlw2 hgw2)
        have HO2 : Hid (OwnI (w.heap.size + 1) w2 v2 ((((nmM K).take (i + 1)).flatMap chM).map (fld l))) := Lib.hid (by rw [hps]; exact how2)
        have HL2 := Lib.hid hlw2
        clear how2 hlw2 hgw2 k0
        go_wp2_with fail
        go_roundg (m - (i + 1))
        case measure => omega
        case rel => exact ⟨i + 1, by omega, rfl, by go_num, HO2, HL2⟩
      · have k0 := (HB.out.below HL.out (by omega)).cell (HCC.out 7 (by omega))
        go_wp2_with (with_reducible refine ev_appI rfl (.tmp 66) (.tmp 69) rfl (w.heap.size + 1) W _ _ rfl (HO.out.below ((Below.refl wr.heap.size wr).alloc (Nat.le_refl _) _) (Nat.le_refl _)) (HL.out.alloc (by omega) _) (by simp; omega) wr.heap.size (fld l 7) rfl ((Blk.new wr _ _).cell rfl) (by omega) ?_; intro v2 w2 how2 hlw2 hgw2)
        have HO2 : Hid (OwnI (w.heap.size + 1) w2 v2 ((((nmM K).take (i + 1)).flatMap chM).map (fld l))) := Lib.hid (by rw [hps]; exact how2)
        have HL2 := Lib.hid hlw2
        clear how2 hlw2 hgw2 k0
        go_wp2_with fail
        go_roundg (m - (i + 1))
        case measure => omega
        case rel => exact ⟨i + 1, by omega, rfl, by go_num, HO2, HL2⟩
      · have k0 := (HB.out.below HL.out (by omega)).cell (HCC.out 8 (by omega))
        go_wp2_with (with_reducible refine ev_appI rfl (.tmp 73) (.tmp 76) rfl (w.heap.size + 1) W _ _ rfl (HO.out.below ((Below.refl wr.heap.size wr).alloc (Nat.le_refl _) _) (Nat.le_refl _)) (HL.out.alloc (by omega) _) (by simp; omega) wr.heap.size (fld l 8) rfl ((Blk.new wr _ _).cell rfl) (by omega) ?_; intro v2 w2 how2 hlw2 hgw2)
        have HO2 : Hid (OwnI (w.heap.size + 1) w2 v2 ((((nmM K).take (i + 1)).flatMap chM).map (fld l))) := Lib.hid (by rw [hps]; exact how2)
        have HL2 := Lib.hid hlw2
        clear how2 hlw2 hgw2 k0
        go_wp2_with fail
        go_roundg (m - (i + 1))
        case measure => omega
        case rel => exact ⟨i + 1, by omega, rfl, by go_num, HO2, HL2⟩
      · have k0 := (HB.out.below HL.out (by omega)).cell (HCC.out 9 (by omega))
        go_upto_region 8 with (with_reducible refine ev_appI rfl (.tmp 18) (.tmp 22) rfl (w.heap.size + 1) W _ _ rfl (HO.out.below ((Below.refl wr.heap.size wr).alloc (Nat.le_refl _) _) (Nat.le_refl _)) (HL.out.alloc (by omega) _) (by simp; omega) wr.heap.size (fld l 9) rfl ((Blk.new wr _ _).cell rfl) (by omega) ?_; intro v2 w2 how2 hlw2 hgw2)
        have HO2 := Lib.hid how2
        have HL2 := Lib.hid hlw2
        clear how2 hlw2 hgw2 k0
        have hz2 : w.heap.size + 1 ≤ w2.heap.size := by have := HL2.out.size; rw [HWS.out] at this; exact this
        have k0 := (HB.out.below HL2.out (by omega)).cell (HCC.out 10 (by omega))
        go_upto_region 9 with (with_reducible refine ev_appI rfl (.tmp 24) (.tmp 28) rfl (w.heap.size + 1) W _ _ rfl (HO2.out.below ((Below.refl w2.heap.size w2).alloc (Nat.le_refl _) _) (Nat.le_refl _)) (HL2.out.alloc (by omega) _) (by simp; omega) w2.heap.size (fld l 10) rfl ((Blk.new w2 _ _).cell rfl) (by simp; omega) ?_; intro v3 w3 how3 hlw3 hgw3)
        have HO3 := Lib.hid how3
        have HL3 := Lib.hid hlw3
        clear how3 hlw3 hgw3 k0
        have hz3 : w.heap.size + 1 ≤ w3.heap.size := by have := HL3.out.size; rw [HWS.out] at this; exact this
        have k0 := (HB.out.below HL3.out (by omega)).cell (HCC.out 11 (by omega))
        go_wp2_with (with_reducible refine ev_appI rfl (.tmp 30) (.tmp 34) rfl (w.heap.size + 1) W _ _ rfl (HO3.out.below ((Below.refl w3.heap.size w3).alloc (Nat.le_refl _) _) (Nat.le_refl _)) (HL3.out.alloc (by omega) _) (by simp; omega) w3.heap.size (fld l 11) rfl ((Blk.new w3 _ _).cell rfl) (by simp; omega) ?_; intro v4 w4 how4 hlw4 hgw4)
        have HO4 : Hid (OwnI (w.heap.size + 1) w4 v4 ((((nmM K).take (i + 1)).flatMap chM).map (fld l))) := Lib.hid (by
          rw [hps]
          have e : P ++ (chM 82).map (fld l) = P ++ [fld l 9] ++ [fld l 10] ++ [fld l 11] := by simp [chM]
          rw [e]; exact how4)
        have HL4 := Lib.hid hlw4
        clear how4 hlw4 hgw4 k0
        go_wp2_with fail
        go_roundg (m - (i + 1))
        case measure => omega
        case rel => exact ⟨i + 1, by omega, rfl, by go_num, HO4, HL4⟩
    · obtain rfl : i = m := by omega
      go_wp2_with fail
      go_ret
      exact ⟨_, rfl, by rw [HF.out]; have := HO.out.mono (C := w.heap.size) (by omega); rwa [List.take_of_length_le (by rw [HM.out]; exact Nat.le_refl _)] at this, HBL.out.trans (HL.out.mono (by omega))⟩
end Go.Proofs.YtanihdpgblkeaaaGreatDoor
