/-
  Events as texts (reeve's layer 19): the reference's words, names, numbers, Word.
-/
import Derived.Test.YtanihdpgblkeaaaGreatDoorPhraseMath
import Derived.Test.YtanihdpgblkeaaaGreatDoorRowAll
import Derived.Test.YtanihdpgblkeaaaGreatDoorRefAll
namespace Go.Proofs.YtanihdpgblkeaaaGreatDoor
open Go.RowKit
set_option linter.unusedVariables false
set_option linter.unusedSimpArgs false

theorem kind_seven {k : Int} (h : 1 ≤ k ∧ k ≤ 7) : k = 1 ∨ k = 2 ∨ k = 3 ∨ k = 4 ∨ k = 5 ∨ k = 6 ∨ k = 7 := by omega
def wordsK : List (List UInt8) := [[], kindW 1, kindW 2, kindW 3, kindW 4, kindW 5, kindW 6, kindW 7]
theorem wordsK_at (k : Nat) (h : 1 ≤ k ∧ k ≤ 7) : wordsK[k]? = some (kindW k) := by
  have ha : k = 1 ∨ k = 2 ∨ k = 3 ∨ k = 4 ∨ k = 5 ∨ k = 6 ∨ k = 7 := by omega
  rcases ha with rfl | rfl | rfl | rfl | rfl | rfl | rfl <;> rfl
theorem RowN.new (w : World) (l : List Int) (cap : Nat) (hl : l.length ≤ cap) (hne : l ≠ []) : RowN (w.alloc (.cells (l.map (Value.int .i64)).toArray 3)) (.slice (some ⟨w.heap.size, 0, none⟩) l.length cap) l := by
  refine .inr ⟨_, 0, cap, rfl, by simp, fun j x hj => ?_, hl⟩
  have h := Blk.new w (l.map (Value.int .i64)).toArray 3
  rw [Nat.zero_add]
  exact h.cell (by simp [hj])
theorem ref19_words (w : World) : Calls Tryz.prog 91 #[] w fun e w' => ∃ v, e = .returned v ∧ RowS w' v (wordsK.map strL) ∧ Below w.heap.size w w' := by
  go_enter Tryz.func91, Tryz.ntmps91
  go_wp2_with fail
  go_ret
  exact ⟨_, rfl, RowS.new w (wordsK.map strL) 8 (Nat.le_refl _) (by simp [wordsK]), (Below.refl _ _).alloc (Nat.le_refl _) _⟩
theorem ref19_names (k : Int) (hk : 1 ≤ k ∧ k ≤ 7) (w : World) : Calls Tryz.prog 92 #[.int .i64 k] w fun e w' => ∃ v, e = .returned v ∧ RowS w' v ((namesW k).map strL) ∧ Below w.heap.size w w' := by
  rcases kind_seven hk with rfl | rfl | rfl | rfl | rfl | rfl | rfl
  · go_enter Tryz.func92, Tryz.ntmps92
    go_wp2_with fail
    go_ret
    exact ⟨_, rfl, RowS.new w ((namesW 1).map strL) 5 (Nat.le_refl _) (by decide), (Below.refl _ _).alloc (Nat.le_refl _) _⟩
  · go_enter Tryz.func92, Tryz.ntmps92
    go_wp2_with fail
    go_ret
    exact ⟨_, rfl, RowS.new w ((namesW 2).map strL) 5 (Nat.le_refl _) (by decide), (Below.refl _ _).alloc (Nat.le_refl _) _⟩
  · go_enter Tryz.func92, Tryz.ntmps92
    go_wp2_with fail
    go_ret
    exact ⟨_, rfl, RowS.new w ((namesW 3).map strL) 2 (Nat.le_refl _) (by decide), (Below.refl _ _).alloc (Nat.le_refl _) _⟩
  · go_enter Tryz.func92, Tryz.ntmps92
    go_wp2_with fail
    go_ret
    exact ⟨_, rfl, RowS.new w ((namesW 4).map strL) 5 (Nat.le_refl _) (by decide), (Below.refl _ _).alloc (Nat.le_refl _) _⟩
  · go_enter Tryz.func92, Tryz.ntmps92
    go_wp2_with fail
    go_ret
    exact ⟨_, rfl, RowS.new w ((namesW 5).map strL) 1 (Nat.le_refl _) (by decide), (Below.refl _ _).alloc (Nat.le_refl _) _⟩
  · go_enter Tryz.func92, Tryz.ntmps92
    go_wp2_with fail
    go_ret
    exact ⟨_, rfl, RowS.new w ((namesW 6).map strL) 3 (Nat.le_refl _) (by decide), (Below.refl _ _).alloc (Nat.le_refl _) _⟩
  · go_enter Tryz.func92, Tryz.ntmps92
    go_wp2_with fail
    go_ret
    exact ⟨_, rfl, RowS.new w ((namesW 7).map strL) 3 (Nat.le_refl _) (by decide), (Below.refl _ _).alloc (Nat.le_refl _) _⟩
set_option maxRecDepth 100000 in
set_option maxHeartbeats 3200000 in
theorem ref19_numbers (l : List Int) (hl : l.length = 8) (hk : 1 ≤ fld l 0 ∧ fld l 0 ≤ 7) (w : World) : Calls Tryz.prog 93 #[.agg (cellsI l)] w fun e w' => ∃ v, e = .returned v ∧ RowN w' v (numsL l) ∧ Below w.heap.size w w' := by
  obtain ⟨k, n, j, i, p, x, y, z, rfl⟩ := eight_of hl
  have a1 : cellsI [k, n, j, i, p, x, y, z] = #[.int .i64 k, .int .i64 n, .int .i64 j, .int .i64 i, .int .i64 p, .int .i64 x, .int .i64 y, .int .i64 z] := rfl
  rw [a1]
  have hk : 1 ≤ k ∧ k ≤ 7 := hk
  have K := Blk.new w #[.int .i64 k, .int .i64 n, .int .i64 j, .int .i64 i, .int .i64 p, .int .i64 x, .int .i64 y, .int .i64 z] 43
  have hb : Below w.heap.size w (w.alloc (.cells #[.int .i64 k, .int .i64 n, .int .i64 j, .int .i64 i, .int .i64 p, .int .i64 x, .int .i64 y, .int .i64 z] 43)) := (Below.refl _ _).alloc (Nat.le_refl _) _
  rcases kind_seven hk with rfl | rfl | rfl | rfl | rfl | rfl | rfl
  · obtain ⟨W, hW⟩ : ∃ W, w.alloc (.cells #[.int .i64 1, .int .i64 n, .int .i64 j, .int .i64 i, .int .i64 p, .int .i64 x, .int .i64 y, .int .i64 z] 43) = W := ⟨_, rfl⟩
    rw [hW] at K hb
    have HW := Lib.hid hW
    have HB := Lib.hid hb
    have c0 := K.cell (i := 0) rfl
    have c1 := K.cell (i := 1) rfl
    have c2 := K.cell (i := 2) rfl
    have c3 := K.cell (i := 3) rfl
    have c4 := K.cell (i := 4) rfl
    have c5 := K.cell (i := 5) rfl
    have c6 := K.cell (i := 6) rfl
    have c7 := K.cell (i := 7) rfl
    clear hW hb K
    go_enter Tryz.func93, Tryz.ntmps93
    go_upto_region 1 with fail
    rw [HW.out]
    clear HW
    go_wp2_with fail
    go_ret
    exact ⟨_, rfl, RowN.new W [n, i, x, y, z] 5 (Nat.le_refl _) (by simp), HB.out.alloc HB.out.size _⟩
  · obtain ⟨W, hW⟩ : ∃ W, w.alloc (.cells #[.int .i64 2, .int .i64 n, .int .i64 j, .int .i64 i, .int .i64 p, .int .i64 x, .int .i64 y, .int .i64 z] 43) = W := ⟨_, rfl⟩
    rw [hW] at K hb
    have HW := Lib.hid hW
    have HB := Lib.hid hb
    have c0 := K.cell (i := 0) rfl
    have c1 := K.cell (i := 1) rfl
    have c2 := K.cell (i := 2) rfl
    have c3 := K.cell (i := 3) rfl
    have c4 := K.cell (i := 4) rfl
    have c5 := K.cell (i := 5) rfl
    have c6 := K.cell (i := 6) rfl
    have c7 := K.cell (i := 7) rfl
    clear hW hb K
    go_enter Tryz.func93, Tryz.ntmps93
    go_upto_region 1 with fail
    rw [HW.out]
    clear HW
    go_wp2_with fail
    go_ret
    exact ⟨_, rfl, RowN.new W [n, i, x, y, z] 5 (Nat.le_refl _) (by simp), HB.out.alloc HB.out.size _⟩
  · obtain ⟨W, hW⟩ : ∃ W, w.alloc (.cells #[.int .i64 3, .int .i64 n, .int .i64 j, .int .i64 i, .int .i64 p, .int .i64 x, .int .i64 y, .int .i64 z] 43) = W := ⟨_, rfl⟩
    rw [hW] at K hb
    have HW := Lib.hid hW
    have HB := Lib.hid hb
    have c0 := K.cell (i := 0) rfl
    have c1 := K.cell (i := 1) rfl
    have c2 := K.cell (i := 2) rfl
    have c3 := K.cell (i := 3) rfl
    have c4 := K.cell (i := 4) rfl
    have c5 := K.cell (i := 5) rfl
    have c6 := K.cell (i := 6) rfl
    have c7 := K.cell (i := 7) rfl
    clear hW hb K
    go_enter Tryz.func93, Tryz.ntmps93
    go_upto_region 1 with fail
    rw [HW.out]
    clear HW
    go_wp2_with fail
    go_ret
    exact ⟨_, rfl, RowN.new W [n, i] 2 (Nat.le_refl _) (by simp), HB.out.alloc HB.out.size _⟩
  · obtain ⟨W, hW⟩ : ∃ W, w.alloc (.cells #[.int .i64 4, .int .i64 n, .int .i64 j, .int .i64 i, .int .i64 p, .int .i64 x, .int .i64 y, .int .i64 z] 43) = W := ⟨_, rfl⟩
    rw [hW] at K hb
    have HW := Lib.hid hW
    have HB := Lib.hid hb
    have c0 := K.cell (i := 0) rfl
    have c1 := K.cell (i := 1) rfl
    have c2 := K.cell (i := 2) rfl
    have c3 := K.cell (i := 3) rfl
    have c4 := K.cell (i := 4) rfl
    have c5 := K.cell (i := 5) rfl
    have c6 := K.cell (i := 6) rfl
    have c7 := K.cell (i := 7) rfl
    clear hW hb K
    go_enter Tryz.func93, Tryz.ntmps93
    go_upto_region 1 with fail
    rw [HW.out]
    clear HW
    go_wp2_with fail
    go_ret
    exact ⟨_, rfl, RowN.new W [j, p, x, y, z] 5 (Nat.le_refl _) (by simp), HB.out.alloc HB.out.size _⟩
  · obtain ⟨W, hW⟩ : ∃ W, w.alloc (.cells #[.int .i64 5, .int .i64 n, .int .i64 j, .int .i64 i, .int .i64 p, .int .i64 x, .int .i64 y, .int .i64 z] 43) = W := ⟨_, rfl⟩
    rw [hW] at K hb
    have HW := Lib.hid hW
    have HB := Lib.hid hb
    have c0 := K.cell (i := 0) rfl
    have c1 := K.cell (i := 1) rfl
    have c2 := K.cell (i := 2) rfl
    have c3 := K.cell (i := 3) rfl
    have c4 := K.cell (i := 4) rfl
    have c5 := K.cell (i := 5) rfl
    have c6 := K.cell (i := 6) rfl
    have c7 := K.cell (i := 7) rfl
    clear hW hb K
    go_enter Tryz.func93, Tryz.ntmps93
    go_upto_region 1 with fail
    rw [HW.out]
    clear HW
    go_wp2_with fail
    go_ret
    exact ⟨_, rfl, RowN.new W [j] 1 (Nat.le_refl _) (by simp), HB.out.alloc HB.out.size _⟩
  · obtain ⟨W, hW⟩ : ∃ W, w.alloc (.cells #[.int .i64 6, .int .i64 n, .int .i64 j, .int .i64 i, .int .i64 p, .int .i64 x, .int .i64 y, .int .i64 z] 43) = W := ⟨_, rfl⟩
    rw [hW] at K hb
    have HW := Lib.hid hW
    have HB := Lib.hid hb
    have c0 := K.cell (i := 0) rfl
    have c1 := K.cell (i := 1) rfl
    have c2 := K.cell (i := 2) rfl
    have c3 := K.cell (i := 3) rfl
    have c4 := K.cell (i := 4) rfl
    have c5 := K.cell (i := 5) rfl
    have c6 := K.cell (i := 6) rfl
    have c7 := K.cell (i := 7) rfl
    clear hW hb K
    go_enter Tryz.func93, Tryz.ntmps93
    go_upto_region 1 with fail
    rw [HW.out]
    clear HW
    go_wp2_with fail
    go_ret
    exact ⟨_, rfl, RowN.new W [j, n, i] 3 (Nat.le_refl _) (by simp), HB.out.alloc HB.out.size _⟩
  · obtain ⟨W, hW⟩ : ∃ W, w.alloc (.cells #[.int .i64 7, .int .i64 n, .int .i64 j, .int .i64 i, .int .i64 p, .int .i64 x, .int .i64 y, .int .i64 z] 43) = W := ⟨_, rfl⟩
    rw [hW] at K hb
    have HW := Lib.hid hW
    have HB := Lib.hid hb
    have c0 := K.cell (i := 0) rfl
    have c1 := K.cell (i := 1) rfl
    have c2 := K.cell (i := 2) rfl
    have c3 := K.cell (i := 3) rfl
    have c4 := K.cell (i := 4) rfl
    have c5 := K.cell (i := 5) rfl
    have c6 := K.cell (i := 6) rfl
    have c7 := K.cell (i := 7) rfl
    clear hW hb K
    go_enter Tryz.func93, Tryz.ntmps93
    go_upto_region 1 with fail
    rw [HW.out]
    clear HW
    go_wp2_with fail
    go_ret
    exact ⟨_, rfl, RowN.new W [j, n, i] 3 (Nat.le_refl _) (by simp), HB.out.alloc HB.out.size _⟩
end Go.Proofs.YtanihdpgblkeaaaGreatDoor
