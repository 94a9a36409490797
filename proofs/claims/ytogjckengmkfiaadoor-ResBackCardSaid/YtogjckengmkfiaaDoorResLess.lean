/-
  Which vector stands ahead (reeve's layer 8): the program's Less, and the reference's.
-/
import Derived.Test.YtogjckengmkfiaaDoorResTop
import Derived.StillTailTactics
import Derived.BigQuiet
namespace Go.Proofs.YtogjckengmkfiaaDoor
open Go.RowKit
set_option linter.unusedVariables false
set_option linter.unusedSimpArgs false

/-- Does one stand ahead of the other, number by number? -/
def lessB (a b : List Int) : Bool := if fld a 0 ≠ fld b 0 then decide (fld a 0 < fld b 0) else if fld a 1 ≠ fld b 1 then decide (fld a 1 < fld b 1) else if fld a 2 ≠ fld b 2 then decide (fld a 2 < fld b 2) else false
theorem less_at (a b : List Int) (k : Nat) (hk : k < 3) (he : ∀ j, j < k → fld a j = fld b j) (hn : fld a k ≠ fld b k) : lessB a b = decide (fld a k < fld b k) := by
  unfold lessB
  match k, hk with
  | 0, _ => rw [if_pos hn]
  | 1, _ => rw [if_neg (by simp [he 0 (by omega)]), if_pos hn]
  | 2, _ => rw [if_neg (by simp [he 0 (by omega)]), if_neg (by simp [he 1 (by omega)]), if_pos hn]
theorem less_all (a b : List Int) (he : ∀ j, j < 3 → fld a j = fld b j) : lessB a b = false := by
  unfold lessB
  rw [if_neg (by simp [he 0 (by omega)]), if_neg (by simp [he 1 (by omega)]), if_neg (by simp [he 2 (by omega)])]
set_option maxRecDepth 100000 in
set_option maxHeartbeats 1600000 in
theorem res_less (a b : List Int) (ha : a.length = 3) (hb : b.length = 3) (w : World) :
    Calls Tryd.prog 51 #[.agg (cellsI a), .agg (cellsI b)] w fun e w' => e = .returned (.bool (lessB a b)) ∧ Below w.heap.size w w' := by
  have HCA := Lib.hid (fun i (h : i < 3) => show (cellsI a)[i]? = some (.int .i64 (fld a i)) from cellsI_at (by omega))
  have HCB := Lib.hid (fun i (h : i < 3) => show (cellsI b)[i]? = some (.int .i64 (fld b i)) from cellsI_at (by omega))
  obtain ⟨A, hA⟩ : ∃ A, cellsI a = A := ⟨_, rfl⟩
  obtain ⟨B, hB⟩ : ∃ B, cellsI b = B := ⟨_, rfl⟩
  rw [hA] at HCA ⊢
  rw [hB] at HCB ⊢
  obtain ⟨R, hR⟩ : ∃ R, lessB a b = R := ⟨_, rfl⟩
  rw [hR]
  have HAT := Lib.hid (fun k hk he hn => hR.symm.trans (less_at a b k hk he hn))
  have HALL := Lib.hid (fun he => hR.symm.trans (less_all a b he))
  clear hA hB hR ha hb
  obtain ⟨n, hn⟩ : ∃ n, w.heap.size = n := ⟨_, rfl⟩
  obtain ⟨W, hW⟩ : ∃ W, (w.alloc (.cells A 53)).alloc (.cells B 53) = W := ⟨_, rfl⟩
  obtain ⟨KA, KB, KL, KZ⟩ := two_boxes w n hn _ _ _ W hW
  have HW := Lib.hid hW
  rw [hn]
  clear hW
  have KA := Lib.hid KA
  have KB := Lib.hid KB
  have KL := Lib.hid KL
  have KZ := Lib.hid KZ
  go_enter Tryd.func51, Tryd.ntmps51
  go_upto_region 1 with fail
  rw [HW.out]
  try rw [hn]
  clear HW
  go_wp2_with fail
  go_loopg [6] 3 (fun gg s wr => ∃ k : Nat, k ≤ 3 ∧ gg = 3 - k ∧ s = .int .i64 k ∧ (∃ m, wr = W.drewN m) ∧ Hid (∀ j, j < k → fld a j = fld b j))
  case atStart => exact ⟨0, by omega, rfl, rfl, ⟨0, rfl⟩, Lib.hid (fun j h => by omega)⟩
  case round =>
    obtain ⟨k, hk, hg, rfl, ⟨m, rfl⟩, HI⟩ := hrel
    have hg := hg.symm
    subst hg
    by_cases hlt : k < 3
    · have hkI : (k : Int) < 3 := by omega
      have hk0 : (0 : Int) ≤ (k : Int) := by omega
      have c0 : W.cell? ⟨n, k, none⟩ = some (.int .i64 (fld a k)) := KA.out.cell (HCA.out k hlt)
      have c1 : W.cell? ⟨n + 1, k, none⟩ = some (.int .i64 (fld b k)) := KB.out.cell (HCB.out k hlt)
      have hat := HAT.out k hlt HI.out
      have HI2 := Lib.hid (fun (h : fld a k = fld b k) j (hj : j < k + 1) => show fld a j = fld b j by
        by_cases e : j = k
        · rw [e]; exact h
        · exact HI.out j (by omega))
      obtain ⟨x, hx⟩ : ∃ x, fld a k = x := ⟨_, rfl⟩
      obtain ⟨y, hy⟩ : ∃ y, fld b k = y := ⟨_, rfl⟩
      rw [hx] at c0 hat HI2
      rw [hy] at c1 hat HI2
      have HAT2 := Lib.hid hat
      clear hx hy hat
      by_cases h1 : x = y
      · subst h1
        have q : (x != x) = false := by simp
        go_upto_region 4 with fail
        go_quiet (fail)
        go_wp2_with fail
        go_roundg (3 - (k + 1))
        case measure => omega
        case rel => exact ⟨k + 1, by omega, rfl, by go_num, ⟨_, rfl⟩, Lib.hid (HI2.out (by first | rfl | trivial))⟩
      · have q : (x != y) = true := by simp [h1]
        have HR2 := Lib.hid (HAT2.out h1)
        by_cases h2 : x < y
        · have HR3 : Hid (R = true) := Lib.hid (by rw [HR2.out]; simp [h2])
          go_upto_region 4 with fail
          go_quiet (fail)
          go_upto_region 5 with fail
          go_quiet (fail)
          go_wp2_with fail
          go_ret
          exact ⟨by rw [HR3.out]; rfl, Below.trans KL.out (below_drewN _ _ |>.mono (by have := KZ.out; omega))⟩
        · have h2' : y ≤ x := by omega
          have HR3 : Hid (R = false) := Lib.hid (by rw [HR2.out]; simp; omega)
          go_upto_region 4 with fail
          go_quiet (fail)
          go_upto_region 5 with fail
          go_quiet (fail)
          go_wp2_with fail
          go_ret
          exact ⟨by rw [HR3.out]; rfl, Below.trans KL.out (below_drewN _ _ |>.mono (by have := KZ.out; omega))⟩
    · obtain rfl : k = 3 := by omega
      have HR2 := Lib.hid (HALL.out HI.out)
      go_wp2_with fail
      go_ret
      exact ⟨by rw [HR2.out]; rfl, Below.trans KL.out (below_drewN _ _ |>.mono (by have := KZ.out; omega))⟩
set_option maxRecDepth 100000 in
set_option maxHeartbeats 1600000 in
theorem ref08_less (a b : List Int) (ha : a.length = 3) (hb : b.length = 3) (w : World) :
    Calls Tryd.prog 52 #[.agg (cellsI a), .agg (cellsI b)] w fun e w' => e = .returned (.bool (lessB a b)) ∧ Below w.heap.size w w' := by
  have HCA := Lib.hid (fun i (h : i < 3) => show (cellsI a)[i]? = some (.int .i64 (fld a i)) from cellsI_at (by omega))
  have HCB := Lib.hid (fun i (h : i < 3) => show (cellsI b)[i]? = some (.int .i64 (fld b i)) from cellsI_at (by omega))
  obtain ⟨A, hA⟩ : ∃ A, cellsI a = A := ⟨_, rfl⟩
  obtain ⟨B, hB⟩ : ∃ B, cellsI b = B := ⟨_, rfl⟩
  rw [hA] at HCA ⊢
  rw [hB] at HCB ⊢
  obtain ⟨R, hR⟩ : ∃ R, lessB a b = R := ⟨_, rfl⟩
  rw [hR]
  have HAT := Lib.hid (fun k hk he hn => hR.symm.trans (less_at a b k hk he hn))
  have HALL := Lib.hid (fun he => hR.symm.trans (less_all a b he))
  clear hA hB hR ha hb
  obtain ⟨n, hn⟩ : ∃ n, w.heap.size = n := ⟨_, rfl⟩
  obtain ⟨W, hW⟩ : ∃ W, (w.alloc (.cells A 53)).alloc (.cells B 53) = W := ⟨_, rfl⟩
  obtain ⟨KA, KB, KL, KZ⟩ := two_boxes w n hn _ _ _ W hW
  have HW := Lib.hid hW
  rw [hn]
  clear hW
  have KA := Lib.hid KA
  have KB := Lib.hid KB
  have KL := Lib.hid KL
  have KZ := Lib.hid KZ
  go_enter Tryd.func52, Tryd.ntmps52
  go_upto_region 1 with fail
  rw [HW.out]
  try rw [hn]
  clear HW
  go_wp2_with fail
  go_loopg [5] 3 (fun gg s wr => ∃ k : Nat, k ≤ 3 ∧ gg = 3 - k ∧ s = .int .i64 k ∧ (∃ m, wr = W.drewN m) ∧ Hid (∀ j, j < k → fld a j = fld b j))
  case atStart => exact ⟨0, by omega, rfl, rfl, ⟨0, rfl⟩, Lib.hid (fun j h => by omega)⟩
  case round =>
    obtain ⟨k, hk, hg, rfl, ⟨m, rfl⟩, HI⟩ := hrel
    have hg := hg.symm
    subst hg
    by_cases hlt : k < 3
    · have hkI : (k : Int) < 3 := by omega
      have hk0 : (0 : Int) ≤ (k : Int) := by omega
      have c0 : W.cell? ⟨n, k, none⟩ = some (.int .i64 (fld a k)) := KA.out.cell (HCA.out k hlt)
      have c1 : W.cell? ⟨n + 1, k, none⟩ = some (.int .i64 (fld b k)) := KB.out.cell (HCB.out k hlt)
      have hat := HAT.out k hlt HI.out
      have HI2 := Lib.hid (fun (h : fld a k = fld b k) j (hj : j < k + 1) => show fld a j = fld b j by
        by_cases e : j = k
        · rw [e]; exact h
        · exact HI.out j (by omega))
      obtain ⟨x, hx⟩ : ∃ x, fld a k = x := ⟨_, rfl⟩
      obtain ⟨y, hy⟩ : ∃ y, fld b k = y := ⟨_, rfl⟩
      rw [hx] at c0 hat HI2
      rw [hy] at c1 hat HI2
      have HAT2 := Lib.hid hat
      clear hx hy hat
      by_cases h1 : x = y
      · subst h1
        have q : (x != x) = false := by simp
        go_upto_region 4 with fail
        go_quiet (fail)
        go_wp2_with fail
        go_roundg (3 - (k + 1))
        case measure => omega
        case rel => exact ⟨k + 1, by omega, rfl, by go_num, ⟨_, rfl⟩, Lib.hid (HI2.out (by first | rfl | trivial))⟩
      · have q : (x != y) = true := by simp [h1]
        have HR2 := Lib.hid (HAT2.out h1)
        by_cases h2 : x < y
        · have HR3 : Hid (R = true) := Lib.hid (by rw [HR2.out]; simp [h2])
          go_upto_region 4 with fail
          go_quiet (fail)
          go_upto_region 5 with fail
          go_quiet (fail)
          go_wp2_with fail
          go_ret
          exact ⟨by rw [HR3.out]; rfl, Below.trans KL.out (below_drewN _ _ |>.mono (by have := KZ.out; omega))⟩
        · have h2' : y ≤ x := by omega
          have HR3 : Hid (R = false) := Lib.hid (by rw [HR2.out]; simp; omega)
          go_upto_region 4 with fail
          go_quiet (fail)
          go_upto_region 5 with fail
          go_quiet (fail)
          go_wp2_with fail
          go_ret
          exact ⟨by rw [HR3.out]; rfl, Below.trans KL.out (below_drewN _ _ |>.mono (by have := KZ.out; omega))⟩
    · obtain rfl : k = 3 := by omega
      have HR2 := Lib.hid (HALL.out HI.out)
      go_wp2_with fail
      go_ret
      exact ⟨by rw [HR2.out]; rfl, Below.trans KL.out (below_drewN _ _ |>.mono (by have := KZ.out; omega))⟩
end Go.Proofs.YtogjckengmkfiaaDoor
