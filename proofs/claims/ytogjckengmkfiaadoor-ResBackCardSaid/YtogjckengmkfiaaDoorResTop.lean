/-
  The program's vectors (reeve's layer 8): together, without, the most, what fits, which is ahead.
-/
import Derived.Test.YtogjckengmkfiaaDoorResBoth
namespace Go.Proofs.YtogjckengmkfiaaDoor
open Go.RowKit
set_option linter.unusedVariables false
set_option linter.unusedSimpArgs false

theorem three_boxes (w : World) (n : Nat) (hn : w.heap.size = n) (a b c : Array Value) (t : TypeId) (W : World) (hW : ((w.alloc (.cells a t)).alloc (.cells b t)).alloc (.cells c t) = W) :
    Blk W n a t ∧ Blk W (n + 1) b t ∧ Blk W (n + 1 + 1) c t ∧ Below n w W ∧ W.heap.size = n + 3 := by
  subst hW; subst hn
  exact ⟨((Blk.new w _ _).alloc _).alloc _, (blk_at (w.alloc _) _ _ _ (by simp)).alloc _, blk_at ((w.alloc _).alloc _) _ _ _ (by simp), (((Below.refl w.heap.size w).alloc (Nat.le_refl _) _).alloc (by simp) _).alloc (by simp; omega) _, by simp⟩
theorem two_boxes (w : World) (n : Nat) (hn : w.heap.size = n) (a b : Array Value) (t : TypeId) (W : World) (hW : (w.alloc (.cells a t)).alloc (.cells b t) = W) :
    Blk W n a t ∧ Blk W (n + 1) b t ∧ Below n w W ∧ W.heap.size = n + 2 := by
  subst hW; subst hn
  exact ⟨(Blk.new w _ _).alloc _, blk_at (w.alloc _) _ _ _ (by simp), ((Below.refl w.heap.size w).alloc (Nat.le_refl _) _).alloc (by simp) _, by simp⟩
set_option maxRecDepth 100000 in
set_option maxHeartbeats 1600000 in
theorem res_add (a b : List Int) (ha : a.length = 3) (hb : b.length = 3) (w : World) :
    Calls Tryd.prog 43 #[.agg (cellsI a), .agg (cellsI b)] w fun e w' => e = .returned (.tuple #[.agg (cellsI (bothR addW a b).1), .bool (bothR addW a b).2]) ∧ Below w.heap.size w w' := by
  have HE := res_both_add a b ha hb
  have hl := bothR_length addW a b ha hb
  generalize bothR addW a b = R at HE hl ⊢
  obtain ⟨R1, R2⟩ := R
  change R1.length = 3 at hl
  obtain ⟨r0, r1, r2, rfl⟩ := three_of hl
  have er : cellsI [r0, r1, r2] = #[.int .i64 r0, .int .i64 r1, .int .i64 r2] := rfl
  rw [er] at HE
  clear er
  have hu := Tryd.underlying53
  obtain ⟨a0, a1, a2, rfl⟩ := three_of ha
  obtain ⟨b0, b1, b2, rfl⟩ := three_of hb
  have ea : cellsI [a0, a1, a2] = #[.int .i64 a0, .int .i64 a1, .int .i64 a2] := rfl
  have eb : cellsI [b0, b1, b2] = #[.int .i64 b0, .int .i64 b1, .int .i64 b2] := rfl
  rw [ea] at HE ⊢
  rw [eb] at HE ⊢
  have HX := Lib.hid HE
  clear HE
  clear ea eb ha hb
  obtain ⟨n, hn⟩ : ∃ n, w.heap.size = n := ⟨_, rfl⟩
  obtain ⟨W, hW⟩ : ∃ W, ((w.alloc (.cells #[.int .i64 a0, .int .i64 a1, .int .i64 a2] 53)).alloc (.cells #[.int .i64 b0, .int .i64 b1, .int .i64 b2] 53)).alloc (.cells #[.int .i64 0, .int .i64 0, .int .i64 0] 53) = W := ⟨_, rfl⟩
  obtain ⟨KA, KB, KC, KL, KZ⟩ := three_boxes w n hn _ _ _ _ W hW
  have HW := Lib.hid hW
  rw [hn]
  clear hW
  go_enter Tryd.func43, Tryd.ntmps43
  go_upto_region 1 with fail
  rw [HW.out]
  try rw [hn]
  clear HW
  have d0 := KA.cell (i := 0) rfl
  have d1 := KA.cell (i := 1) rfl
  have d2 := KA.cell (i := 2) rfl
  have e0 := KB.cell (i := 0) rfl
  have e1 := KB.cell (i := 1) rfl
  have e2 := KB.cell (i := 2) rfl
  have KC := Lib.hid KC
  have KL := Lib.hid KL
  have KZ := Lib.hid KZ
  clear KA KB
  go_wp2_with fail
  refine (HX.out _).mono ?_
  rintro e w1 ⟨rfl, hb1⟩
  have KC1 := Lib.hid (KC.out.below hb1 KC.out.lt)
  have KL1 := Lib.hid (KL.out.trans (hb1.mono (by have := KC.out.lt; omega)))
  have KD : Hid (Blk w1 (n + 1 + 1) (cellsI [0, 0, 0]) 53) := KC1
  clear hb1 KC KL d0 d1 d2 e0 e1 e2 KC1
  go_wp2_with (with_reducible refine ev_store rfl 53 (.tmp 4) (.tmp 9) rfl (n + 1 + 1) (cellsI [r0, r1, r2]) rfl rfl 53 _ KD.out (info_res _ rfl) rfl (cellsI_one _) ?_; intro w9 hb9 hc9 hz9)
  refine bodyPost_ret (res_ct rfl _ (n + 1 + 1) 53 (cellsI [r0, r1, r2]) _ rfl hb9 hu rfl (info_res _ rfl)) rfl ⟨rfl, ?_⟩
  exact Chg.belowOf KL1.out hc9 (fun k hk => by omega) (by have := KL1.out.size; omega)
set_option maxRecDepth 100000 in
set_option maxHeartbeats 1600000 in
theorem res_sub (a b : List Int) (ha : a.length = 3) (hb : b.length = 3) (w : World) :
    Calls Tryd.prog 45 #[.agg (cellsI a), .agg (cellsI b)] w fun e w' => e = .returned (.tuple #[.agg (cellsI (bothR subW a b).1), .bool (bothR subW a b).2]) ∧ Below w.heap.size w w' := by
  have HE := res_both_sub a b ha hb
  have hl := bothR_length subW a b ha hb
  generalize bothR subW a b = R at HE hl ⊢
  obtain ⟨R1, R2⟩ := R
  change R1.length = 3 at hl
  obtain ⟨r0, r1, r2, rfl⟩ := three_of hl
  have er : cellsI [r0, r1, r2] = #[.int .i64 r0, .int .i64 r1, .int .i64 r2] := rfl
  rw [er] at HE
  clear er
  have hu := Tryd.underlying53
  obtain ⟨a0, a1, a2, rfl⟩ := three_of ha
  obtain ⟨b0, b1, b2, rfl⟩ := three_of hb
  have ea : cellsI [a0, a1, a2] = #[.int .i64 a0, .int .i64 a1, .int .i64 a2] := rfl
  have eb : cellsI [b0, b1, b2] = #[.int .i64 b0, .int .i64 b1, .int .i64 b2] := rfl
  rw [ea] at HE ⊢
  rw [eb] at HE ⊢
  have HX := Lib.hid HE
  clear HE
  clear ea eb ha hb
  obtain ⟨n, hn⟩ : ∃ n, w.heap.size = n := ⟨_, rfl⟩
  obtain ⟨W, hW⟩ : ∃ W, ((w.alloc (.cells #[.int .i64 a0, .int .i64 a1, .int .i64 a2] 53)).alloc (.cells #[.int .i64 b0, .int .i64 b1, .int .i64 b2] 53)).alloc (.cells #[.int .i64 0, .int .i64 0, .int .i64 0] 53) = W := ⟨_, rfl⟩
  obtain ⟨KA, KB, KC, KL, KZ⟩ := three_boxes w n hn _ _ _ _ W hW
  have HW := Lib.hid hW
  rw [hn]
  clear hW
  go_enter Tryd.func45, Tryd.ntmps45
  go_upto_region 1 with fail
  rw [HW.out]
  try rw [hn]
  clear HW
  have d0 := KA.cell (i := 0) rfl
  have d1 := KA.cell (i := 1) rfl
  have d2 := KA.cell (i := 2) rfl
  have e0 := KB.cell (i := 0) rfl
  have e1 := KB.cell (i := 1) rfl
  have e2 := KB.cell (i := 2) rfl
  have KC := Lib.hid KC
  have KL := Lib.hid KL
  have KZ := Lib.hid KZ
  clear KA KB
  go_wp2_with fail
  refine (HX.out _).mono ?_
  rintro e w1 ⟨rfl, hb1⟩
  have KC1 := Lib.hid (KC.out.below hb1 KC.out.lt)
  have KL1 := Lib.hid (KL.out.trans (hb1.mono (by have := KC.out.lt; omega)))
  have KD : Hid (Blk w1 (n + 1 + 1) (cellsI [0, 0, 0]) 53) := KC1
  clear hb1 KC KL d0 d1 d2 e0 e1 e2 KC1
  go_wp2_with (with_reducible refine ev_store rfl 53 (.tmp 4) (.tmp 9) rfl (n + 1 + 1) (cellsI [r0, r1, r2]) rfl rfl 53 _ KD.out (info_res _ rfl) rfl (cellsI_one _) ?_; intro w9 hb9 hc9 hz9)
  refine bodyPost_ret (res_ct rfl _ (n + 1 + 1) 53 (cellsI [r0, r1, r2]) _ rfl hb9 hu rfl (info_res _ rfl)) rfl ⟨rfl, ?_⟩
  exact Chg.belowOf KL1.out hc9 (fun k hk => by omega) (by have := KL1.out.size; omega)
/-- Of each the greater one. -/
def mostL (a b : List Int) : List Int := List.zipWith max a b
theorem mostL_length (a b : List Int) (ha : a.length = 3) (hb : b.length = 3) : (mostL a b).length = 3 := by simp [mostL, ha, hb]
set_option maxRecDepth 100000 in
set_option maxHeartbeats 1600000 in
theorem res_most (a b : List Int) (ha : a.length = 3) (hb : b.length = 3) (w : World) :
    Calls Tryd.prog 53 #[.agg (cellsI a), .agg (cellsI b)] w fun e w' => e = .returned (.agg (cellsI (mostL a b))) ∧ Below w.heap.size w w' := by
  have HE := res_each_most a b ha hb
  have hl := mostL_length a b ha hb
  have hm : List.zipWith max a b = mostL a b := rfl
  rw [hm] at HE
  clear hm
  generalize mostL a b = R1 at HE hl ⊢
  obtain ⟨r0, r1, r2, rfl⟩ := three_of hl
  have er : cellsI [r0, r1, r2] = #[.int .i64 r0, .int .i64 r1, .int .i64 r2] := rfl
  rw [er] at HE
  clear er
  have hu := Tryd.underlying53
  obtain ⟨a0, a1, a2, rfl⟩ := three_of ha
  obtain ⟨b0, b1, b2, rfl⟩ := three_of hb
  have ea : cellsI [a0, a1, a2] = #[.int .i64 a0, .int .i64 a1, .int .i64 a2] := rfl
  have eb : cellsI [b0, b1, b2] = #[.int .i64 b0, .int .i64 b1, .int .i64 b2] := rfl
  rw [ea] at HE ⊢
  rw [eb] at HE ⊢
  have HX := Lib.hid HE
  clear HE
  clear ea eb ha hb
  obtain ⟨n, hn⟩ : ∃ n, w.heap.size = n := ⟨_, rfl⟩
  obtain ⟨W, hW⟩ : ∃ W, ((w.alloc (.cells #[.int .i64 a0, .int .i64 a1, .int .i64 a2] 53)).alloc (.cells #[.int .i64 b0, .int .i64 b1, .int .i64 b2] 53)).alloc (.cells #[.int .i64 0, .int .i64 0, .int .i64 0] 53) = W := ⟨_, rfl⟩
  obtain ⟨KA, KB, KC, KL, KZ⟩ := three_boxes w n hn _ _ _ _ W hW
  have HW := Lib.hid hW
  rw [hn]
  clear hW
  go_enter Tryd.func53, Tryd.ntmps53
  go_upto_region 1 with fail
  rw [HW.out]
  try rw [hn]
  clear HW
  have d0 := KA.cell (i := 0) rfl
  have d1 := KA.cell (i := 1) rfl
  have d2 := KA.cell (i := 2) rfl
  have e0 := KB.cell (i := 0) rfl
  have e1 := KB.cell (i := 1) rfl
  have e2 := KB.cell (i := 2) rfl
  have KC := Lib.hid KC
  have KL := Lib.hid KL
  have KZ := Lib.hid KZ
  clear KA KB
  go_wp2_with fail
  refine (HX.out _).mono ?_
  rintro e w1 ⟨rfl, hb1⟩
  have KC1 := Lib.hid (KC.out.below hb1 KC.out.lt)
  have KL1 := Lib.hid (KL.out.trans (hb1.mono (by have := KC.out.lt; omega)))
  have KD : Hid (Blk w1 (n + 1 + 1) (cellsI [0, 0, 0]) 53) := KC1
  clear hb1 KC KL d0 d1 d2 e0 e1 e2 KC1
  go_wp2_with (with_reducible refine ev_store rfl 53 (.tmp 4) (.tmp 7) rfl (n + 1 + 1) (cellsI [r0, r1, r2]) rfl rfl 53 _ KD.out (info_res _ rfl) rfl (cellsI_one _) ?_; intro w9 hb9 hc9 hz9)
  refine bodyPost_ret (res_c rfl _ (n + 1 + 1) 53 (cellsI [r0, r1, r2]) _ rfl hb9 hu rfl (info_res _ rfl)) rfl ⟨rfl, ?_⟩
  exact Chg.belowOf KL1.out hc9 (fun k hk => by omega) (by have := KL1.out.size; omega)
/-- Is there enough of each? -/
def fitsB (a b : List Int) : Bool := decide (mostL a b = b)
set_option maxRecDepth 100000 in
set_option maxHeartbeats 1600000 in
theorem res_fits (a b : List Int) (ha : a.length = 3) (hb : b.length = 3) (w : World) :
    Calls Tryd.prog 49 #[.agg (cellsI a), .agg (cellsI b)] w fun e w' => e = .returned (.bool (fitsB a b)) ∧ Below w.heap.size w w' := by
  have HE := res_most a b ha hb
  have hl := mostL_length a b ha hb
  have heq := eql_res (mostL a b) b hl hb
  unfold fitsB
  generalize decide (mostL a b = b) = d at heq ⊢
  generalize mostL a b = R1 at HE heq
  clear hl
  obtain ⟨D, hD⟩ : ∃ D, cellsI R1 = D := ⟨_, rfl⟩
  rw [hD] at HE heq
  clear hD
  obtain ⟨a0, a1, a2, rfl⟩ := three_of ha
  obtain ⟨b0, b1, b2, rfl⟩ := three_of hb
  have ea : cellsI [a0, a1, a2] = #[.int .i64 a0, .int .i64 a1, .int .i64 a2] := rfl
  have eb : cellsI [b0, b1, b2] = #[.int .i64 b0, .int .i64 b1, .int .i64 b2] := rfl
  rw [ea] at HE ⊢
  rw [eb] at HE heq ⊢
  have HX := Lib.hid HE
  clear HE
  clear ea eb ha hb
  obtain ⟨n, hn⟩ : ∃ n, w.heap.size = n := ⟨_, rfl⟩
  obtain ⟨W, hW⟩ : ∃ W, (w.alloc (.cells #[.int .i64 a0, .int .i64 a1, .int .i64 a2] 53)).alloc (.cells #[.int .i64 b0, .int .i64 b1, .int .i64 b2] 53) = W := ⟨_, rfl⟩
  obtain ⟨KA, KB, KL, KZ⟩ := two_boxes w n hn _ _ _ W hW
  have HW := Lib.hid hW
  rw [hn]
  clear hW
  go_enter Tryd.func49, Tryd.ntmps49
  go_upto_region 1 with fail
  rw [HW.out]
  try rw [hn]
  clear HW
  have c0 := KA.cell (i := 0) rfl
  have c1 := KA.cell (i := 1) rfl
  have c2 := KA.cell (i := 2) rfl
  have e0 := KB.cell (i := 0) rfl
  have e1 := KB.cell (i := 1) rfl
  have e2 := KB.cell (i := 2) rfl
  have KL := Lib.hid KL
  have KZ := Lib.hid KZ
  clear KA KB
  go_region_held3 (fun w' => w'.cell? ⟨n, 0, none⟩ = some (.int .i64 a0) ∧ w'.cell? ⟨n, 1, none⟩ = some (.int .i64 a1) ∧ w'.cell? ⟨n, 2, none⟩ = some (.int .i64 a2) ∧ w'.cell? ⟨n + 1, 0, none⟩ = some (.int .i64 b0) ∧ w'.cell? ⟨n + 1, 1, none⟩ = some (.int .i64 b1) ∧ w'.cell? ⟨n + 1, 2, none⟩ = some (.int .i64 b2))
    (first | (go_keep; done) | exact ⟨keepB hb4 c0 (by have := KZ.out; show n < W.heap.size; omega), keepB hb4 c1 (by have := KZ.out; show n < W.heap.size; omega), keepB hb4 c2 (by have := KZ.out; show n < W.heap.size; omega), keepB hb4 e0 (by have := KZ.out; show n + 1 < W.heap.size; omega), keepB hb4 e1 (by have := KZ.out; show n + 1 < W.heap.size; omega), keepB hb4 e2 (by have := KZ.out; show n + 1 < W.heap.size; omega)⟩)
    ((go_at_call 53; refine (HX.out _).mono ?_; rintro e w4 ⟨rfl, hb4⟩))
  have KL4 := Lib.hid (KL.out.drew.trans (hb4.mono (by have := KZ.out; show n ≤ W.heap.size; omega)))
  go_wp2_with fail
  go_ret
  exact ⟨rfl, KL4.out⟩
end Go.Proofs.YtogjckengmkfiaaDoor
